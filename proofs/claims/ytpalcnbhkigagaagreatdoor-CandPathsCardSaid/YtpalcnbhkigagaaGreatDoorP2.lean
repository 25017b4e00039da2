/- Contracts of functions, and plain facts, for the law that the last text of this claim proves. -/
import Derived.Test.YtpalcnbhkigagaaGreatDoorP1
import Derived.Laws.BytesArg
import Derived.Laws.Strings
set_option linter.unusedSimpArgs false
set_option linter.unusedVariables false
namespace Go.Vc
open Go.RowKit
theorem OwnS.lower {α : Type} {E : Enc α} {T B B' cap : Nat} {w : Wd} {p : OA} {l : List α} (h : OwnS E T B w p cap l) (hB : B' ≤ B) : OwnS E T B' w p cap l := by
  obtain ⟨h1, h2⟩ := h
  refine ⟨h1, ?_⟩
  rcases h2 with h2 | ⟨g, cap', cur, h2, hb, qV⟩
  · exact .inl h2
  · exact .inr ⟨g, cap', cur, h2, UM hB hb, qV⟩
theorem zm8 {P : Program} {w : Wd} {t T ty : TypeId} {iT : TI} {z : Value} (hu : P.underlying t = some (.slice T)) (hT : TIok P T iT) (hz : iT.zero = some [z]) (h1 : z.oneCell' = true) {b o n c : Nat} (hn : 0 < n) {cs : Array Value} {u : TypeId} (hg : w.heap[b]? = some (.cells cs u (0, 0))) (ho : o + n ≤ cs.size) {K : Value → Wd → Prop}
    (k : ∀ w', w'.heap[b]? = some (.cells (cs.toList.take o ++ List.replicate n z ++ cs.toList.drop (o + n)).toArray u (0, 0)) → w.grownBy w' (some b) → w'.heap.size = w.heap.size → K (.tuple #[]) w') :
    SatR ((Builtin.clear_ #[t] ty #[.slice (some ⟨b, o, none⟩) n c]).run P w) K := by
  obtain ⟨⟨inf, hi, _, _, hzz⟩, _⟩ := hT
  obtain ⟨zv, hzv, hzc⟩ := hzz _ hz
  have hv : ∀ w, (zeroValue T).run P w = .ok zv w := fun w => by simp [zeroValue, typeInfo, hi, hzv]
  have hzc2 : zv.cells = #[z] := by rw [← hzc]
  have hrep : (Builtin.zeroCells zv.cells n).toList = List.replicate n z := by
    rw [hzc2]
    simp [Builtin.zeroCells]
    apply List.ext_getElem
    · simp
    · intro i h1 h2
      simp [Nat.mod_one]
  have hst := Qe P b o u (List.replicate n z) 0 cs w hg (by simpa using ho) (fun v hv' => by rw [Ju hv']; exact h1)
  refine SatR.mk (v := .tuple #[]) (w' := w.setRow b (cs.toList.take o ++ List.replicate n z ++ cs.toList.drop (o + n)).toArray) ?_ (k _ (zx hg) (jb w b _) (by simp))
  obtain ⟨m, rfl⟩ : ∃ m, n = m + 1 := ⟨n - 1, by omega⟩
  have hrep' : Builtin.zeroCells zv.cells (m + 1) = (List.replicate (m + 1) z).toArray := by rw [← hrep]
  simp only [UL, JN] at hst
  simp [Builtin.clear_, Ut hu, hv, hrep', hst]
theorem zcT {α : Type} {E : Enc α} {P : Program} {w : Wd} {t T : TypeId} {iT : TI} {z : List Value} {kl kc : IntKind} (hu : P.underlying t = some (.slice T)) (hT : TIok P T iT) (hz : iT.zero = some z) (hzl : z.length = iT.size) (hs : iT.size = E.sz) (n : Nat) (h1 : iT.bytes * n ≤ 281474976710656) (h63 : n ≤ maxLen) {K : Value → Wd → Prop}
    (k : ∀ w', OwnS E T w.heap.size w' (some ⟨w.heap.size, 0, none⟩) n [] → Below w.heap.size w w' → w'.heap.size = w.heap.size + 1 → K (.slice (some ⟨w.heap.size, 0, none⟩) 0 n) w') :
    SatR ((Instr.makeSlice t (.int kl 0) (.int kc (n : Int))).run P w) K := by
  obtain ⟨⟨inf, hi, hsz, hby, hzz⟩, _⟩ := hT
  obtain ⟨zv, hzv, hzc⟩ := hzz z hz
  have h63' : (n : Int) ≤ 9223372036854775807 := by unfold maxLen at h63; omega
  have hb' : (inf.bytes : Int) * (n : Int) ≤ 281474976710656 := by
    have h : ((inf.bytes * n : Nat) : Int) ≤ 281474976710656 := by rw [hby]; omega
    rwa [QI] at h
  have hr := run_make (P := P) w t T inf zv hu hi hzv kl kc 0 n (by omega) (by omega) hb' h63'
  simp only [KM, Int.toNat_zero] at hr
  have hcs : zv.cells.size = inf.size := by rw [hsz, ← hzl, ← hzc]; simp
  have hp : 0 < zv.cells.size := by rw [hcs, hsz, hs]; exact E.pos
  have hm : (madeCells zv.cells (n * inf.size)).size = n * E.sz := by
    have := Gj List.length (zhL (z := zv) hp n)
    rw [zfT, hcs] at this
    rw [← hs, ← hsz]
    simpa [hcs] using this
  refine SatR.mk hr (k _ ?_ ((Gb _ _).alloc (UW _) _) (by simp))
  exact World.ownsRow_made w _ n (UW _) h63 hm
structure StepG (n0 : Nat) (Ow F : Nat → Prop) (A B : Wd) : Prop where
  os : B.os = A.os
  tape : B.tape = A.tape
  output : B.output = A.output
  size : A.heap.size ≤ B.heap.size
  same : ∀ k, k < A.heap.size → ((k < n0 ∧ ¬ Ow k) ∨ F k) → B.heap[k]? = A.heap[k]?
theorem StepG.mono {n0 n1 : Nat} {Ow F : Nat → Prop} {A B : Wd} (h : StepG n0 Ow F A B) (hn : n1 ≤ n0) : StepG n1 Ow F A B :=
  ⟨h.os, h.tape, h.output, h.size, fun k hk hf => h.same k hk (hf.imp (fun h => ⟨KG h.1 hn, h.2⟩) id)⟩
theorem StepG.below {n0 : Nat} {Ow F : Nat → Prop} {A B : Wd} (h : Below A.heap.size A B) : StepG n0 Ow F A B :=
  ⟨h.os, h.tape, h.output, h.size, fun k hk _ => h.block k hk⟩
theorem StepG.trans {n0 : Nat} {Ow F : Nat → Prop} {A B C : Wd} (h : StepG n0 Ow F A B) (k : StepG n0 Ow F B C) : StepG n0 Ow F A C :=
  ⟨k.os.trans h.os, k.tape.trans h.tape, k.output.trans h.output, UM h.size k.size, fun i hi hf => (k.same i (KG hi h.size) hf).trans (h.same i hi hf)⟩
theorem StepG.put {n0 : Nat} {Ow F : Nat → Prop} {A : Wd} {l : Nat} (h : n0 ≤ l) (hf : ¬ F l) (o : Obj) : StepG n0 Ow F A (A.putObj l o) :=
  ⟨rfl, rfl, rfl, by simp [World.putObj], fun k _ hk => zg (fun e => by subst e; rcases hk with hk | hk; omega; exact hf hk)⟩
theorem StepG.grown {n0 : Nat} {Ow F : Nat → Prop} {A B : Wd} {l : Nat} (h : A.grownBy B (some l)) (hl : n0 ≤ l ∨ Ow l) (hf : ¬ F l) : StepG n0 Ow F A B :=
  ⟨h.os, h.tape, h.output, h.size, fun k hk hf2 => h.block k hk (fun e => by
    have e : k = l := by simpa using e
    subst e
    rcases hf2 with h2 | h2
    · rcases hl with hl | hl
      · omega
      · exact h2.2 hl
    · exact hf h2)⟩
structure JG {σ : Type} (n0 : Nat) (Ow : Nat → Prop) (J : σ → (Nat → Prop) → Wd → Prop) : Prop where
  step : ∀ s F A B, J s F A → StepG n0 Ow F A B → J s F B
  lt : ∀ s F A k, J s F A → F k → k < A.heap.size ∧ ¬ Ow k
theorem JG.mono {σ : Type} {n0 n1 : Nat} {Ow : Nat → Prop} {J : σ → (Nat → Prop) → Wd → Prop} (h : JG n0 Ow J) (hn : n0 ≤ n1) : JG n1 Ow J :=
  ⟨fun s F A B hj hs => h.step s F A B hj (hs.mono hn), h.lt⟩
structure KeepsG (F F' : Nat → Prop) (A B : Wd) : Prop where
  os : B.os = A.os
  tape : B.tape = A.tape
  output : B.output = A.output
  size : A.heap.size ≤ B.heap.size
  same : ∀ k, k < A.heap.size → ¬ F k → B.heap[k]? = A.heap[k]?
  fp : ∀ k, F' k → F k ∨ A.heap.size ≤ k
theorem KeepsG.refl (F : Nat → Prop) (A : Wd) : KeepsG F F A A := ⟨rfl, rfl, rfl, UW _, fun _ _ _ => rfl, fun _ h => .inl h⟩
theorem KeepsG.trans {F F' F'' : Nat → Prop} {A B C : Wd} (h : KeepsG F F' A B) (k : KeepsG F' F'' B C) : KeepsG F F'' A C :=
  ⟨k.os.trans h.os, k.tape.trans h.tape, k.output.trans h.output, UM h.size k.size,
   fun i hi hf => (k.same i (KG hi h.size) (fun hb => by rcases h.fp i hb with h1 | h1; exact hf h1; omega)).trans (h.same i hi hf),
   fun i hi => by
     rcases k.fp i hi with h1 | h1
     · exact h.fp i h1
     · exact .inr (UM h.size h1)⟩
theorem KeepsG.weak {F F' G : Nat → Prop} {A B : Wd} (h : KeepsG F F' A B) (hF : ∀ k, F k → G k) : KeepsG G F' A B :=
  ⟨h.os, h.tape, h.output, h.size, fun k hk hg => h.same k hk fun hf => hg (hF k hf), fun k hk => (h.fp k hk).imp (hF k) id⟩
theorem KeepsG.below {F F' : Nat → Prop} {A B : Wd} (h : Below A.heap.size A B) (hf : ∀ k, F' k → F k ∨ A.heap.size ≤ k) : KeepsG F F' A B :=
  ⟨h.os, h.tape, h.output, h.size, fun k hk _ => h.block k hk, hf⟩
theorem KeepsG.grown {F : Nat → Prop} {A B : Wd} {g : Nat} (h : A.grownBy B (some g)) (hg : F g) : KeepsG F F A B :=
  ⟨h.os, h.tape, h.output, h.size, fun k hk hf => h.block k hk (fun e => hf (by cases e; exact hg)), fun k h => .inl h⟩
def zh6 {α : Type} (P : Program) (g : Nat) (lb : List Value) (xs : List α) (W0 : Wd) (Rd Ow : Nat → Prop) (St : List α → List Value → Wd → Prop) : Prop :=
  ∀ (l : Nat) (F0 : Nat → Prop) (J Jx : List α → (Nat → Prop) → Wd → Prop) (W : Wd), W0.heap.size ≤ W.heap.size → (∀ k, Rd k ∨ Ow k → W.heap[k]? = W0.heap[k]?) → (∀ k, Rd k → ¬ F0 k) →
    JG W.heap.size Ow J → JG W.heap.size Ow Jx →
    (∀ pre x vs F W1, J pre F W1 → St (pre ++ [x]) vs W1 → (pre ++ [x]) <+: xs → YieldR P l vs.toArray W1 fun v W2 =>
      (v = .bool true ∧ ∃ F', J (pre ++ [x]) F' W2 ∧ KeepsG F F' W1 W2) ∨ (v = .bool false ∧ ∃ F', Jx (pre ++ [x]) F' W2)) →
    J [] F0 W →
    Calls P g (.func (.yield l) #[] #[] :: lb).toArray W fun e W' => (∃ v, e = .returned v) ∧ ((∃ F', J xs F' W') ∨ ∃ pre F', pre <+: xs ∧ Jx pre F' W')
def zq0 {α : Type} (F : Nat → Prop) (J : List α → (Nat → Prop) → Wd → Prop) (Jx : Exit → List α → (Nat → Prop) → Wd → Prop) (xs : List α) (A : Wd) : Exit → Env → Wd → Prop
  | .normal, _, B => ∃ F', J xs F' B ∧ KeepsG F F' A B
  | .ret, _, B => ∃ F', Jx .ret xs F' B ∧ KeepsG F F' A B
  | .exit id, _, B => ∃ F', Jx (.exit id) xs F' B ∧ KeepsG F F' A B
  | _, _, _ => False
theorem zcO {α : Type} {S : Sig} (hS : SigOk S) (hr : S.r = none) {f : Operand} {ps : Array Tmp} {assign body : Code} {E : Env} {w : Wd} {Q : Exit → Env → Wd → Prop}
    {gf : Nat} {lb : Array Value} (hg : opd E f = some (.func (.func gf) #[] lb)) (hok : zac S gf = true)
    {xs : List α} {W0 : Wd} {Rd Ow : Nat → Prop} {St : List α → List Value → Wd → Prop} (hI : zh6 S.P gf lb.toList xs W0 Rd Ow St) (hW0 : W0.heap.size ≤ w.heap.size) (hRd : ∀ k, Rd k ∨ Ow k → k < W0.heap.size ∧ w.heap[k]? = W0.heap[k]?)
    (hps : ∀ pre vs W, St pre vs W → vs.length = ps.size) (hpn : ∀ p ∈ ps.toList, p < S.n)
    (F0 : Nat → Prop) (J : List α → (Nat → Prop) → Wd → Prop) (Jx : Exit → List α → (Nat → Prop) → Wd → Prop) (hRF : ∀ k, Rd k → ¬ F0 k)
    (hJ : JG w.heap.size Ow J) (hJx : ∀ ex, JG w.heap.size Ow (Jx ex)) (h0 : J [] F0 w)
    (hround : ∀ (l : Nat) (pre : List α) (x : α) (vs : List Value) (F : Nat → Prop) (W : Wd), w.heap.size ≤ l → (pre ++ [x]) <+: xs → J pre F W → St (pre ++ [x]) vs W → ¬ F l → (∃ lo, W.heap[l]? = some (.loop lo)) →
      wpE (sr S l) assign ⟨zf4 ps.toList vs E.vs, []⟩ W fun ex E1 W1 => ex = .normal ∧ ∃ F1, KeepsG F F1 W W1 ∧ J pre F1 W1 ∧
        ∀ o W2, W2 = W1.putObj l o → J pre F1 W2 → wpE (sr S l) body E1 W2 (zq0 F1 J Jx (pre ++ [x]) W2))
    (hdone : ∀ D F W, w.heap.size ≤ D → ¬ F D → J xs F W → W.heap[D]? = some (.deferred (some [])) → Q .normal ⟨E.vs, { target := .collected D, args := #[] } :: E.ds⟩ W)
    (hstop : ∀ D ex pre F W, w.heap.size ≤ D → ¬ F D → pre <+: xs → Jx ex pre F W → W.heap[D]? = some (.deferred (some [])) → Q ex ⟨E.vs, { target := .collected D, args := #[] } :: E.ds⟩ W) :
    zi0 S f ps assign body E w Q := by
  intro a ha
  have hcall : ∀ args w, (callFunc gf args).run S.P w = .ok (.enter gf args) w := by
    simp only [zac, Qi, Gd, Ge] at hok
    exact fun args w => hS.call gf hok.1.1 hok.1.2 hok.2 args w
  refine wpIn_rangeFunc ?_
  intro fn hfn
  have hro : (FR S.r).round = none := hr
  rw [hro]
  obtain ⟨rec, hrec⟩ : ∃ rec : LoopState → Option Code → Loop, rec = fun st pe => { state := st, pending := pe, fn, tmps := a.tmps, params := ps, assign, body, defers := w.heap.size } := ⟨_, rfl⟩
  obtain ⟨W1, hW1⟩ : ∃ W1, (w.alloc (.deferred (some []))).alloc (.loop (rec .ready none)) = W1 := ⟨_, rfl⟩
  have hK0 := zz w (.deferred (some []))
  have hK1 : W1.heap[w.heap.size]? = some (.deferred (some [])) := by rw [← hW1]; exact qF _ hK0
  have hL1 : W1.heap[w.heap.size + 1]? = some (.loop (rec .ready none)) := by
    rw [← hW1]; have := zz (w.alloc (.deferred (some []))) (.loop (rec .ready none)); rwa [QF] at this
  have hs1 : W1.heap.size = w.heap.size + 2 := by rw [← hW1]; simp
  have hst1 : Below w.heap.size w W1 := by
    rw [← hW1]; exact ((Gb _ w).alloc (UW _) _).alloc (by simp) _
  have hJ1 := hJ.step _ _ _ _ h0 (.below hst1)
  have hOl : ∀ k, w.heap.size ≤ k → ¬ Ow k := fun k hk ho => by have := (hRd k (.inr ho)).1; omega
  have hFl : ∀ k, F0 k → k < w.heap.size := fun k hk => (hJ.lt _ _ _ k h0 hk).1
  refine ⟨w.heap.size + 1, [{ target := .collected w.heap.size, args := #[] }], W1, { target := .fn (.func gf) lb, args := #[.func (.yield (w.heap.size + 1)) #[] #[]] }, W1, gf,
    #[.func (.yield (w.heap.size + 1)) #[] #[]] ++ lb, W1, ?_, ?_, fun _ _ => trivial, ?_, fun h => by simp [FR] at h, ?_⟩
  · rw [← hW1, hrec]; exact Kr _ _ _ _ _
  · have hg' := ha.eval hg
    simp only [resolve, hg']
    simp [go_sem]
  · simp [invoke, go_sem, hcall]
  · have hargs : #[Value.func (.yield (w.heap.size + 1)) #[] #[]] ++ lb = (Value.func (.yield (w.heap.size + 1)) #[] #[] :: lb.toList).toArray := by rw [← Qf]; simp
    rw [hargs]
    have book : ∀ {σ : Type} {K : σ → (Nat → Prop) → Wd → Prop} (lo : Loop), JG w.heap.size Ow K → JG W1.heap.size Ow (fun s F W => K s F W ∧ W.heap[w.heap.size + 1]? = some (.loop lo) ∧ W.heap[w.heap.size]? = some (.deferred (some [])) ∧ ¬ F (w.heap.size + 1) ∧ ¬ F w.heap.size) := by
      intro σ K lo hK
      refine ⟨fun s F A B ⟨hk, hl, hd, hf1, hf2⟩ hs => ?_, fun s F A k ⟨hk, _⟩ hf => hK.lt s F A k hk hf⟩
      exact ⟨hK.step s F A B hk (hs.mono (by omega)), (hs.same _ (hlt hl) (.inl ⟨by omega, hOl _ (by omega)⟩)).trans hl, (hs.same _ (hlt hd) (.inl ⟨by omega, hOl _ (by omega)⟩)).trans hd, hf1, hf2⟩
    have hcalls := hI (w.heap.size + 1) F0 (fun pre F W => J pre F W ∧ W.heap[w.heap.size + 1]? = some (.loop (rec .ready none)) ∧ W.heap[w.heap.size]? = some (.deferred (some [])) ∧ ¬ F (w.heap.size + 1) ∧ ¬ F w.heap.size)
      (fun pre F W => ∃ ex c, ((ex = .ret ∧ c = .ret) ∨ ∃ id, ex = .exit id ∧ c = .exit id) ∧ Jx ex pre F W ∧ W.heap[w.heap.size + 1]? = some (.loop (rec .done (some c))) ∧ W.heap[w.heap.size]? = some (.deferred (some [])) ∧ ¬ F (w.heap.size + 1) ∧ ¬ F w.heap.size)
      W1 (by omega) (fun k hk => by
        obtain ⟨h1, h2⟩ := hRd k hk
        rw [← h2]
        exact hst1.block k (by omega)) hRF (book _ hJ)
      ⟨fun s F A B ⟨ex, c, hc, hrest⟩ hs => ⟨ex, c, hc, (book (rec .done (some c)) (hJx ex)).step s F A B hrest hs⟩,
       fun s F A k ⟨ex, c, hc, hrest⟩ hf => (hJx ex).lt s F A k hrest.1 hf⟩ ?_ ⟨hJ1, hL1, hK1, fun h => by have := hFl _ h; omega, fun h => by have := hFl _ h; omega⟩
    · refine zcv (hcalls.mono ?_)
      rintro e W2 ⟨⟨v, rfl⟩, (⟨F, hj, hl, hk, hf1, hf2⟩ | ⟨pre, F, hpre, ex, c, hc, hj, hl, hk, hf1, hf2⟩)⟩
      · have hj2 := hJ.step _ _ _ _ hj (StepG.put (Ow := Ow) (o := .loop (rec .exhausted none)) (n0 := w.heap.size) (l := w.heap.size + 1) (by omega) hf1)
        refine ⟨none, _, by have := Ga (P := S.P) hl (by rw [hrec]; simp); rw [hrec] at this; exact this, ?_⟩
        rw [hrec] at hj2
        exact ⟨⟨E.vs, { target := .collected w.heap.size, args := #[] } :: E.ds⟩, ⟨ha.size, by simp [ha.defers], ha.val⟩, hdone w.heap.size F _ (UW _) hf2 hj2 ((zg (by omega)).trans hk)⟩
      · have hj2 := (hJx ex).step _ _ _ _ hj (StepG.put (Ow := Ow) (o := .loop (rec .exhausted (some c))) (n0 := w.heap.size) (l := w.heap.size + 1) (by omega) hf1)
        refine ⟨some c, _, by have := Ga (P := S.P) hl (by rw [hrec]; simp); rw [hrec] at this; exact this, ?_⟩
        rw [hrec] at hj2
        have hq := hstop w.heap.size ex pre F _ (UW _) hf2 hpre hj2 ((zg (by omega)).trans hk)
        rcases hc with ⟨rfl, rfl⟩ | ⟨id, rfl, rfl⟩
        · exact wpIn_ret ⟨⟨E.vs, { target := .collected w.heap.size, args := #[] } :: E.ds⟩, ⟨ha.size, by simp [ha.defers], ha.val⟩, hq⟩
        · exact wpIn_exit ⟨⟨E.vs, { target := .collected w.heap.size, args := #[] } :: E.ds⟩, ⟨ha.size, by simp [ha.defers], ha.val⟩, hq⟩
    · rintro pre x vs F W ⟨hj, hl, hk, hf1, hf2⟩ hst0 hpre
      have hy := run_yield (P := S.P) (args := vs.toArray) hl (by rw [hrec]; simpa using hps _ _ _ hst0)
      rw [hrec] at hy
      refine ⟨fn, _, assign, body, hy, zbG (r := none) (n := NN) (roundIn_of_wpIn (F := FR none) trivial ?_)⟩
      have hag : Agrees (sr S (w.heap.size + 1)) { tmps := (ps.zip vs.toArray).foldl (fun t (p, v) => t.setIfInBounds p v) a.tmps, defers := [] } ⟨zf4 ps.toList vs E.vs, []⟩ := by
        have h1 : Agrees (sr S (w.heap.size + 1)) { a with defers := [] } ⟨E.vs, []⟩ := ⟨ha.size, rfl, ha.val⟩
        have h2 := zbF ps.toList vs _ _ h1 hpn
        have e : (ps.zip vs.toArray).foldl (fun t (p, v) => t.setIfInBounds p v) a.tmps = (ps.toList.zip vs).foldl (fun t (p, v) => t.setIfInBounds p v) a.tmps := by
          rw [← Ks]; simp
        rw [e]; exact h2
      have hw := qJ (zhn hS _) assign _ _ W _ hag (hround (w.heap.size + 1) pre x vs F W (by omega) hpre hj hst0 hf1 ⟨_, hl⟩)
      refine Gh hw ?_
      rintro ex a1 Wa ⟨E1, hag1, rfl, F1, hk1, hj1, hbody⟩
      have hla := (hk1.same _ (hlt hl) hf1).trans hl
      have hka := (hk1.same _ (hlt hk) hf2).trans hk
      have hfa1 : ¬ F1 (w.heap.size + 1) := fun h => by rcases hk1.fp _ h with h | h; exact hf1 h; have := hlt hl; omega
      have hfa2 : ¬ F1 w.heap.size := fun h => by rcases hk1.fp _ h with h | h; exact hf2 h; have := hlt hk; omega
      refine ⟨_, run_beginRound hla (by rw [hrec]), ?_⟩
      have hst : StepG w.heap.size Ow F1 Wa (Wa.putObj (w.heap.size + 1) (.loop { rec .ready none with state := .busy })) := .put (by omega) hfa1 _
      have hj2 := hJ.step _ _ _ _ hj1 hst
      have hw2 := qJ (zhn hS _) body _ _ _ _ hag1 (hbody _ _ rfl hj2)
      refine Gh hw2 ?_
      have hl2 : (Wa.putObj (w.heap.size + 1) (.loop { rec .ready none with state := .busy })).heap[w.heap.size + 1]? = some (.loop { rec .ready none with state := .busy }) := zcd hla
      have hk2 : (Wa.putObj (w.heap.size + 1) (.loop { rec .ready none with state := .busy })).heap[w.heap.size]? = some (.deferred (some [])) := (zg (by omega)).trans hka
      have fin : ∀ (jump : Option Code) (F3 : Nat → Prop) (W3 : Wd), KeepsG F1 F3 (Wa.putObj (w.heap.size + 1) (.loop { rec .ready none with state := .busy })) W3 →
          (Instr.endRound (w.heap.size + 1) jump).run S.P W3 = .ok (.bool jump.isNone) (W3.putObj (w.heap.size + 1) (.loop (rec (if jump.isNone then .ready else .done) jump))) ∧
          (W3.putObj (w.heap.size + 1) (.loop (rec (if jump.isNone then .ready else .done) jump))).heap[w.heap.size + 1]? = some (.loop (rec (if jump.isNone then .ready else .done) jump)) ∧
          (W3.putObj (w.heap.size + 1) (.loop (rec (if jump.isNone then .ready else .done) jump))).heap[w.heap.size]? = some (.deferred (some [])) ∧
          StepG w.heap.size Ow F3 W3 (W3.putObj (w.heap.size + 1) (.loop (rec (if jump.isNone then .ready else .done) jump))) ∧ ¬ F3 (w.heap.size + 1) ∧ ¬ F3 w.heap.size := fun jump F3 W3 hk3 => by
        have hl3 := (hk3.same _ (hlt hl2) hfa1).trans hl2
        have hd3 := (hk3.same _ (hlt hk2) hfa2).trans hk2
        have hf31 : ¬ F3 (w.heap.size + 1) := fun h => by rcases hk3.fp _ h with h | h; exact hfa1 h; have := hlt hl2; omega
        have hf32 : ¬ F3 w.heap.size := fun h => by rcases hk3.fp _ h with h | h; exact hfa2 h; have := hlt hk2; omega
        have := run_endRound (P := S.P) jump hl3
        rw [hrec] at this ⊢
        exact ⟨this, zcd hl3, (zg (by omega)).trans hd3, .put (by omega) hf31 _, hf31, hf32⟩
      rintro e a3 W3 ⟨E3, _, hq⟩
      cases e with
      | normal =>
        obtain ⟨F3, hj3, hk3⟩ := hq
        obtain ⟨hr3, hl4, hk4, hs3, hf31, hf32⟩ := fin none F3 W3 hk3
        have hj4 := hJ.step _ _ _ _ hj3 hs3
        refine ⟨_, _, hr3, .inl ⟨rfl, F3, ⟨hj4, hl4, hk4, hf31, hf32⟩, ?_⟩⟩
        refine ⟨hs3.os.trans (hk3.os.trans hk1.os), hs3.tape.trans (hk3.tape.trans hk1.tape), hs3.output.trans (hk3.output.trans hk1.output), ?_, fun k hk5 hf5 => ?_, fun k hk5 => ?_⟩
        · have h1 := hk1.size; have h2 := hst.size; have h3 := hk3.size; have h4 := hs3.size; omega
        · by_cases hkl : k = w.heap.size + 1
          · subst hkl; rw [hl4, hl]; rfl
          · have h1 : ¬ F1 k := fun h => by rcases hk1.fp _ h with h | h; exact hf5 h; omega
            have h2 := hk1.size; have h3 := hst.size
            rw [zg hkl, hk3.same k (by omega) h1, zg hkl]
            exact hk1.same k hk5 hf5
        · rcases hk3.fp _ hk5 with h2 | h2
          · exact hk1.fp _ h2
          · have h3 := hk1.size; have h4 := hst.size; exact .inr (by omega)
      | ret =>
        obtain ⟨F3, hj3, hk3⟩ := hq
        obtain ⟨hr3, hl4, hk4, hs3, hf31, hf32⟩ := fin (some .ret) F3 W3 hk3
        have hj4 := (hJx .ret).step _ _ _ _ hj3 hs3
        exact ⟨_, _, hr3, .inr ⟨rfl, F3, .ret, .ret, .inl ⟨rfl, rfl⟩, hj4, hl4, hk4, hf31, hf32⟩⟩
      | exit id =>
        obtain ⟨F3, hj3, hk3⟩ := hq
        obtain ⟨hr3, hl4, hk4, hs3, hf31, hf32⟩ := fin (some (.exit id)) F3 W3 hk3
        have hj4 := (hJx (.exit id)).step _ _ _ _ hj3 hs3
        exact ⟨_, _, hr3, .inr ⟨rfl, F3, .exit id, .exit id, .inr ⟨id, rfl, rfl⟩, hj4, hl4, hk4, hf31, hf32⟩⟩
      | goto t => exact hq.elim
      | panic ch => exact hq.elim
      | outgrown => exact hq.elim
end Go.Vc
namespace Go.Proofs.YtpalcnbhkigagaaGreatDoor
open Go.Vc Go.RowKit Go.Sei
def s64 (n:Nat):Value := .int .u64 (n:Nat)
def s32 (n:Nat):Value := .int .u32 (n:Nat)
theorem bvN {a:Nat} (h:a<2^64):(BitVec.ofInt 64 (a:Int)).toNat=a:=by
 rw [Kt];have:((a:Int)%((2^64:Nat):Int))=(a:Int):=Int.emod_eq_of_lt (by omega) (by omega);rw [this];rfl
theorem w64 {a:Int} (h:0<=a/\a<=18446744073709551615):IntKind.u64.wrap a=a:=zaq h
theorem zas {a b:Nat} (ha:a<2^64) (hb:b<2^64):IntKind.u64.wrap ((BitVec.ofInt IntKind.u64.bits (a:Int)&&&BitVec.ofInt IntKind.u64.bits (b:Int)).toNat:Int)=((a&&&b:Nat):Int):=by
 show IntKind.u64.wrap ((BitVec.ofInt 64 (a:Int)&&&BitVec.ofInt 64 (b:Int)).toNat:Int)=_;rw [Qh,bvN ha,bvN hb];have:a&&&b<=a:=QY;exact w64 (by omega)
theorem za1 {a b:Nat} (ha:a<2^64) (hb:b<2^64):IntKind.u64.wrap ((BitVec.ofInt IntKind.u64.bits (a:Int)|||BitVec.ofInt IntKind.u64.bits (b:Int)).toNat:Int)=((a|||b:Nat):Int):=by
 show IntKind.u64.wrap ((BitVec.ofInt 64 (a:Int)|||BitVec.ofInt 64 (b:Int)).toNat:Int)=_;rw [BitVec.toNat_or,bvN ha,bvN hb];have:a|||b<2^64:=KZ ha hb;exact w64 (by omega)
def qH (a b:Nat):Nat:=a&&&(18446744073709551615-b)
theorem zb0 {a b:Nat} (ha:a<2^64) (hb:b<2^64):IntKind.u64.wrap ((BitVec.ofInt IntKind.u64.bits (a:Int) &&& ~~~ BitVec.ofInt IntKind.u64.bits (b:Int)).toNat:Int)=((qH a b:Nat):Int):=by
 show IntKind.u64.wrap ((BitVec.ofInt 64 (a:Int) &&& ~~~ BitVec.ofInt 64 (b:Int)).toNat:Int)=_;rw [Qh,BitVec.toNat_not,bvN ha,bvN hb];have e:2^64-1-b=18446744073709551615-b:=by omega
 rw [e];have:a&&&(18446744073709551615-b)<=a:=QY;unfold qH;exact w64 (by omega)
theorem jW {a b:Nat} (ha:a<2^64):qH a b<2^64:=by
 have:qH a b<=a:=QY;omega
theorem zbk {a b i:Nat} (hb:b<2^64) (hi:i<64):(qH a b).testBit i=(a.testBit i && !b.testBit i):=by
 unfold qH;rw [Uc,show 18446744073709551615-b=2^64-(b+1) by omega,Nat.testBit_two_pow_sub_succ hb];simp [hi]
theorem zar {e:Nat} (he:e<64):IntKind.u64.wrap ((1:Int)*2^(min (Int.toNat (e:Int)) IntKind.u64.bits))=((2^e:Nat):Int):=by
 have h64:2^e<2^64:=Kf (by decide) he;have e1:min (Int.toNat (e:Int)) IntKind.u64.bits=e:=by
  rw [KM];show min e 64=_;omega
 rw [e1,Int.one_mul];have e2:(2:Int)^e=((2^e:Nat):Int):=by simp
 rw [e2];exact w64 ⟨Int.natCast_nonneg _,Int.ofNat_le.2 (show 2^e<=18446744073709551615 by omega)⟩
theorem zic {a k:Nat} (hk:k<=64):((a:Nat):Int).fdiv (2^(min (Int.toNat (k:Int)) IntKind.u64.bits))=((a/2^k:Nat):Int):=by
 rw [KM,show min k IntKind.u64.bits=k from Ua hk,Jm _ (Int.pow_nonneg (by decide)),Int.natCast_ediv,Int.natCast_pow];rfl
theorem zmh {a k:Nat}:(a/2^k)&&&1=if a.testBit k then 1 else 0:=by
 rw [KE,Nat.testBit_eq_decide_div_mod_eq];by_cases h:a/2^k%2=1
 ·rw [h];rfl
 ·rw [Gn (by simpa using h)];omega
theorem qc {k:Nat} (h:k<64):2^k<2^64:=Kf (by decide) h
theorem w32 {a:Int} (h:0<=a/\a<=4294967295):IntKind.u32.wrap a=a:=by
 unfold IntKind.wrap;simp only [IntKind.bits,IntKind.signed,Uj,Ku,Gk];omega
theorem zmf {a:Nat} (h:a<2^32):(BitVec.ofInt 32 (a:Int)).toNat=a:=by
 rw [Kt];have:((a:Int)%((2^32:Nat):Int))=(a:Int):=Int.emod_eq_of_lt (by omega) (by omega);rw [this];rfl
theorem zlo {a b:Nat} (ha:a<2^32) (hb:b<2^32):IntKind.u32.wrap ((BitVec.ofInt IntKind.u32.bits (a:Int)&&&BitVec.ofInt IntKind.u32.bits (b:Int)).toNat:Int)=((a&&&b:Nat):Int):=by
 show IntKind.u32.wrap ((BitVec.ofInt 32 (a:Int)&&&BitVec.ofInt 32 (b:Int)).toNat:Int)=_;rw [Qh,zmf ha,zmf hb];have:a&&&b<=a:=QY;exact w32 (by omega)
theorem zeJ {a b:Nat} (ha:a<2^32) (hb:b<2^32):IntKind.u32.wrap ((BitVec.ofInt IntKind.u32.bits (a:Int)|||BitVec.ofInt IntKind.u32.bits (b:Int)).toNat:Int)=((a|||b:Nat):Int):=by
 show IntKind.u32.wrap ((BitVec.ofInt 32 (a:Int)|||BitVec.ofInt 32 (b:Int)).toNat:Int)=_;rw [BitVec.toNat_or,zmf ha,zmf hb];have:a|||b<2^32:=KZ ha hb;exact w32 (by omega)
theorem zfD {e:Nat} (he:e<32):IntKind.u32.wrap ((1:Int)*2^(min (Int.toNat (e:Int)) IntKind.u32.bits))=((2^e:Nat):Int):=by
 have h64:2^e<2^32:=Kf (by decide) he;have e1:min (Int.toNat (e:Int)) IntKind.u32.bits=e:=by
  rw [KM];show min e 32=_;omega
 rw [e1,Int.one_mul];have e2:(2:Int)^e=((2^e:Nat):Int):=by simp
 rw [e2];exact w32 ⟨Int.natCast_nonneg _,Int.ofNat_le.2 (show 2^e<=4294967295 by omega)⟩
def zhh:List UInt8:=[0,1,56,2,57,49,28,3,61,58,42,50,38,29,17,4,62,47,59,36,45,43,51,22,53,39,33,30,24,18,12,5,63,55,48,27,60,41,37,16,46,35,44,21,52,32,23,11,54,26,40,15,34,20,31,10,25,14,19,9,13,8,7,6]
def zhi:List UInt8:=[0,1,28,2,29,14,24,3,30,22,20,15,25,17,4,8,31,27,13,23,21,19,16,7,26,12,18,6,11,5,10,9]
def Tz64M (X:Wd):Prop:=zu X ⟨1,0,none⟩ (zhh.map u8)
def Tz32M (X:Wd):Prop:=zu X ⟨0,0,none⟩ (zhi.map u8)
theorem Tz64M.below {w w2:Wd} (h:Tz64M w) (hb:Bw w w2):Tz64M w2:=zm hb h
theorem Tz32M.below {w w2:Wd} (h:Tz32M w) (hb:Bw w w2):Tz32M w2:=zm hb h
theorem znv {k:Nat} (hk:k<64):2^k*285870213051353865%18446744073709551616/2^58<64/\zhh[2^k*285870213051353865%18446744073709551616/2^58]?=some (UInt8.ofNat k):=by
 have h:(List.range 64).all (fun k=>decide (2^k*285870213051353865%18446744073709551616/2^58<64)&&decide (zhh[2^k*285870213051353865%18446744073709551616/2^58]?=some (UInt8.ofNat k)))=true:=by kernel_rfl
 have h1:=Qk.1 h k (Uo.2 hk);rw [bAT,dE,dE] at h1;exact h1
theorem znx {k:Nat} (hk:k<32):2^k*125613361%4294967296/2^27<32/\zhi[2^k*125613361%4294967296/2^27]?=some (UInt8.ofNat k):=by
 have h:(List.range 32).all (fun k=>decide (2^k*125613361%4294967296/2^27<32)&&decide (zhi[2^k*125613361%4294967296/2^27]?=some (UInt8.ofNat k)))=true:=by kernel_rfl
 have h1:=Qk.1 h k (Uo.2 hk);rw [bAT,dE,dE] at h1;exact h1
theorem znw {s:Nat} {w:Wd} (hT:Tz64M w) (h0:s≠0) (h:s<2^64):Calls PG 114 #[s64 s] w fun e w'=>e = .returned (i64 (ctz s:Nat))/\w=w':=by
 refine zI 14 [s64 s] Tryz.func114 ?_;obtain⟨_,_,h2,h3⟩:=jN h0 h;have hp:=qc h3;obtain⟨t1,t2⟩:=znv h3;refine brN (Uh (fun e=>h0 (by omega))) ⟨((2^64-s:Nat):Int),by unfold IntKind.wrap;simp only [IntKind.bits,IntKind.signed,Uj,Ku,Gk];omega,?_⟩;refine⟨((2^ctz s:Nat):Int),(zas (a:=s) (b:=2^64-s) h (by omega)).trans (by rw [h2]),?_⟩;refine⟨((2^ctz s*285870213051353865%18446744073709551616:Nat):Int),by
  have e:(((2^ctz s:Nat):Int)*285870213051353865)=((2^ctz s*285870213051353865:Nat):Int):=by rw [QI];rfl
  rw [e];generalize 2^ctz s*285870213051353865=n;unfold IntKind.wrap;simp only [IntKind.bits,IntKind.signed,Uj,Ku,Gk];omega,?_⟩
 refine⟨by decide,_,zic (k:=58) (by decide),_,rfl,t1,?_⟩;have hv:(zhh.map u8)[2^ctz s*285870213051353865%18446744073709551616/2^58]?=some (u8 (UInt8.ofNat (ctz s))):=by rw [KV,t2];rfl
 refine⟨u8 (UInt8.ofNat (ctz s)),by rw [UX];exact zb hT hv,?_⟩;have e:(UInt8.ofNat (ctz s)).toNat=ctz s:=by rw [KI];omega
 exact⟨(ctz s:Int),by rw [e];exact ze (by omega),rfl,rfl⟩
theorem zgR {s:Nat} {w:Wd}:Calls PG 84 #[s64 s] w fun e w'=>e = .returned (.func (.func 113) #[] #[.pointer (some ⟨w.heap.size,0,none⟩)])/\w'=w.alloc (.cells #[s64 s] 45):=by
 refine zI 4 [s64 s] Tryz.func84 ?_;exact⟨rfl,rfl⟩
def StN (pre:List Nat) (vs:List Value) (W:Wd):Prop:=∃ c,pre.getLast?=some c/\vs=[i64 (c:Nat)]
theorem jY {X Y:Wd} (h:Tz64M X) (hs:Y.heap[1]?=X.heap[1]?):Tz64M Y:=jo hs h
theorem zau {X:Wd} (h:Tz64M X):1<X.heap.size:=JA X _ (zk8 h)
def RdE (bx:Nat) (k:Nat):Prop:=k=bx\/k=1
theorem zj0 {bx s:Nat} {W0:Wd} (hbx:W0.heap[bx]?=some (.cells #[s64 s] 45 (0,0))) (hs:s<2^64) (hT:Tz64M W0) :
  zh6 PG 113 [At0 bx] (els s) W0 (RdE bx) (fun _=>False) StN:=by
 intro yl F0 J Jx W hsz hrd hrf hJ hJx hy h0;have hbW:W.heap[bx]?=some (.cells #[s64 s] 45 (0,0)):=(hrd bx (.inl (.inl rfl))).trans hbx;have hTW:Tz64M W:=jY hT (hrd _ (.inl (.inr rfl)));have hgf:¬ F0 1:=hrf _ (.inr rfl);refine zI 16 [.func (.yield yl) #[] #[],At0 bx] Tryz.func113 ?_;refine⟨_,zb (za hbW) (i:=0) rfl,?_⟩;refine⟨List Nat×Nat,fun q=>⟨[(0,.func (.yield yl) #[] #[]),(3,s64 q.2)],[]⟩,
  fun q X=>∃ F,J q.1 F X/\els s=q.1++els q.2/\q.2<2^64/\Tz64M X/\¬ F 1,fun q=>q.2,([],s),
  (cvE rfl rfl),⟨F0,h0,rfl,hs,hTW,hgf⟩,?_⟩
 clear hbW hTW hgf h0;rintro⟨pre,r⟩ X ⟨F,hI,hxs,hr,hTX,hgX⟩;dsimp only at hI hxs hr ⊢;refine biE (fun hc=>?_) fun hc=>?_
 ·have hc:(!decide ((r:Int)=0))=true:=hc;have hc:¬ (r:Int)=0:=by simpa using hc
  have hr0:r≠0:=by omega
  obtain⟨e1,e2,_,_⟩:=jN hr0 hr;refine cmo (znw hTX hr0 hr) ?_;rintro e _ ⟨rfl,rfl⟩;have hpre:(pre++[ctz r]) <+: els s:=⟨els (qV r),by rw [hxs,e1];simp⟩;refine YieldR.mono (hy pre (ctz r) [i64 (ctz r:Nat)] F X hI ⟨ctz r,by simp,rfl⟩ hpre) ?_;rintro v V (⟨rfl,F',hJV,hKV⟩ | ⟨rfl,F',hJV⟩)
  ·refine brF ?_;have hXs:=hKV.size;have hgl:=zau hTX;have hTV:Tz64M V:=jY hTX (hKV.same _ hgl hgX);have hgV:¬ F' 1:=fun h=>by
    rcases hKV.fp _ h with h3 | h3
    ·exact hgX h3
    ·omega
   exact⟨((r-1:Nat):Int),(zaq (a:=(r:Int)-1) (by omega)).trans (by omega),((qV r:Nat):Int),zas (a:=r) (b:=r-1) hr (by omega),(pre++[ctz r],qV r),(cvE rfl rfl),⟨F',hJV,by rw [hxs,e1];simp,by show qV r<_;omega,hTV,hgV⟩,e2⟩
  ·exact brT ⟨⟨_,rfl⟩,.inr ⟨_,F',hpre,hJV⟩⟩
 ·have hc:(!decide ((r:Int)=0))=false:=hc;have hc:(r:Int)=0:=by simpa using hc
  obtain rfl:r=0:=by omega
  refine⟨⟨_,rfl⟩,.inl ?_⟩;rw [hxs,zaC,QK];exact⟨F,hI⟩
theorem joG {σ:Type} {n0:Nat} {F:Nat->Prop} {J:σ->Wd->Prop} (hF:∀ k,F k->k<n0) (hn:∀ s A,J s A->n0<=A.heap.size) (hJ:∀ s A B,J s A->Below n0 A B->J s B) :
  JG n0 (fun _=>False) (fun s F' W=>F'=F/\J s W):=by
 refine⟨fun s F' A B ⟨e,h⟩ hs=>⟨e,hJ s A B h ⟨hs.os,hs.tape,hs.output,hs.size,fun k hk=>hs.same k (nL hk (hn s A h)) (.inl ⟨hk,fun h=>h⟩)⟩⟩,fun s F' A k ⟨e,h⟩ hk=>?_⟩;subst e;exact⟨nL (hF k hk) (hn s A h),fun h=>h⟩
theorem ji {n:Nat} {A B:Wd} (h:Below n A B) {g:Nat} {o:Obj} (hg:g<n) (f:A.heap[g]?=some o):B.heap[g]?=some o:=(h.block g hg).trans f
theorem zbi {s:Nat} {w:Wd} (hs:s<2^64) (hT:Tz64M w):Calls PG 53 #[s64 s] w fun e w' =>
  e = .returned (.tuple #[i64 ((els s).headD 0:Nat),.bool (!(els s).isEmpty)])/\Bw w w':=by
 refine je 9 [s64 s] (.c .p .p) Tryz.func53 ?_;obtain⟨L,hL⟩:=nm (w.heap.size);refine⟨Unit,fun _=>⟨[(0,s64 s),(2,At0 L),(3,At0 (L+1))],[]⟩,fun _ X=>X.heap[L]?=some (.cells #[i64 0] 3 (0,0))/\X.heap[L+1]?=some (.cells #[.bool false] 4 (0,0))/\X.heap.size=L+2/\Bw w X,?_,?_⟩
 ·have sz:=wz w (.cells #[i64 0] 3);refine⟨(),⟨.cons rfl (.cons (by rw [hL];rfl) (.cons (by rw [hL,<- sz];rfl) .nil)),rfl⟩,?_,?_,?_,?_⟩
  ·rw [hL];exact qF _ (zz w _)
  ·have:=zz (w.alloc (.cells #[i64 0] 3)) (.cells #[.bool false] 4);rw [sz,<- hL] at this;exact this
  ·have:=wz (w.alloc (.cells #[i64 0] 3)) (.cells #[.bool false] 4);rw [sz,<- hL] at this;exact this
  ·exact ((zba w _)).alloc (by simp) _
 rintro _ X ⟨f1,f2,sX,hbX⟩;refine cmo zgR ?_;rintro e W ⟨rfl,hW⟩;have hbW:Bw X W:=by rw [hW];exact (zba _ _)
 have fb:W.heap[X.heap.size]?=some (.cells #[s64 s] 45 (0,0)):=by rw [hW];exact zz X _
 have sW:W.heap.size=L+3:=by rw [hW,wz,sX]
 have g1:=zc hbW f1;have g2:=zc hbW f2;have hbw:Bw w W:=zst hbX hbW;have hTW:=hT.below hbw;clear hW;refine zcO (zbc _) rfl (lb := #[.pointer (some ⟨X.heap.size,0,none⟩)]) rfl rfl (zj0 fb hs hTW) (UW _) (fun k hk=>⟨by rcases hk with (rfl | rfl) | h;exact hlt fb;exact zau hTW;exact h.elim,rfl⟩) (fun pre vs W ⟨c,_,h⟩=>by rw [h];rfl) (by decide)
  (fun k=>k=L\/k=L+1) (fun pre F Y=>F=(fun k=>k=L\/k=L+1)/\pre=[]/\W.heap.size<=Y.heap.size/\Y.heap[L]?=some (.cells #[i64 0] 3 (0,0))/\Y.heap[L+1]?=some (.cells #[.bool false] 4 (0,0))/\Bw w Y)
  (fun ex pre F Y=>F=(fun k=>k=L\/k=L+1)/\ex = .ret/\W.heap.size<=Y.heap.size/\(∃ c,pre=[c]/\Y.heap[L]?=some (.cells #[i64 (c:Nat)] 3 (0,0)))/\Y.heap[L+1]?=some (.cells #[.bool true] 4 (0,0))/\Bw w Y)
  (fun k hk h=>by have:=zau hT;rcases hk with rfl | rfl <;> omega)
  (joG (F:=fun k=>k=L\/k=L+1) (J:=fun (pre:List Nat) Y=>pre=[]/\W.heap.size<=Y.heap.size/\Y.heap[L]?=some (.cells #[i64 0] 3 (0,0))/\Y.heap[L+1]?=some (.cells #[.bool false] 4 (0,0))/\Bw w Y) (fun k h=>by omega) (fun s A h=>h.2.1) (fun pre A B ⟨h0,h1,h2,h3,h4⟩ hb=>⟨h0,UM h1 hb.size,ji hb (by omega) h2,ji hb (by omega) h3,h4.trans (hb.mono (by omega))⟩))
  (fun ex=>joG (F:=fun k=>k=L\/k=L+1) (J:=fun (pre:List Nat) Y=>ex = .ret/\W.heap.size<=Y.heap.size/\(∃ c,pre=[c]/\Y.heap[L]?=some (.cells #[i64 (c:Nat)] 3 (0,0)))/\Y.heap[L+1]?=some (.cells #[.bool true] 4 (0,0))/\Bw w Y) (fun k h=>by omega) (fun s A h=>h.2.1) (fun pre A B ⟨h0,h1,⟨c,hc,h2⟩,h3,h4⟩ hb=>⟨h0,UM h1 hb.size,⟨c,hc,ji hb (by omega) h2⟩,ji hb (by omega) h3,h4.trans (hb.mono (by omega))⟩))
  ⟨rfl,rfl,UW _,g1,g2,hbw⟩ ?_ ?_ ?_
 ·rintro yl pre x vs F V hyl hpre hJ ⟨x',hx',rfl⟩ hfy ⟨lo,hlo⟩;have hx':x=x':=by simpa using hx'
  subst hx';refine⟨rfl,F,KeepsG.refl _ _,hJ,?_⟩;rintro o V2 hV2 ⟨rfl,rfl,h1,h2,h3,h4⟩;refine zj k3 h2 (o:=0) (v:=i64 (x:Nat)) rfl rfl (by show 0<1;decide) rfl fun Y fY gY sY=>?_;have h3':=(gY.block (L+1) (hlt h3) (by simp)).trans h3;refine zj k4 h3' (o:=0) (v := .bool true) rfl rfl (by show 0<1;decide) rfl fun Z fZ gZ sZ=>?_;have fY':=(gZ.block L (hlt fY) (by simp)).trans fY;refine⟨_,⟨rfl,rfl,by omega,⟨x,rfl,fY'⟩,fZ,(h4.trans (zh gY (by omega) (by omega))).trans (zh gZ (by omega) (by omega))⟩,(KeepsG.grown (F:=fun k=>k=L\/k=L+1) gY (.inl rfl)).trans (KeepsG.grown gZ (.inr rfl))⟩
 ·rintro D F Y hD hfD ⟨_,h0,h1,h2,h3,h4⟩ hdef;refine zj k3 h2 (o:=0) (v:=i64 0) rfl rfl (by show 0<1;decide) rfl fun Y1 fY gY sY=>?_;have h3':=(gY.block (L+1) (hlt h3) (by simp)).trans h3;refine zj k4 h3' (o:=0) (v := .bool false) rfl rfl (by show 0<1;decide) rfl fun Z fZ gZ sZ=>?_;have fY':=(gZ.block L (hlt fY) (by simp)).trans fY;have hdef':=(gZ.block D (by rw [sY];exact hlt hdef) (by simp;omega)).trans ((gY.block D (hlt hdef) (by simp;omega)).trans hdef);refine⟨_,rfl,hdef',i64 0,?_,.bool false,?_,?_,?_⟩
  ·exact zb (za ((zg (by omega)).trans fY')) (i:=0) rfl
  ·exact zb (za ((zg (by omega)).trans fZ)) (i:=0) rfl
  ·rw [h0];rfl
  ·exact qO ((h4.trans (zh gY (by omega) (by omega))).trans (zh gZ (by omega) (by omega))) (by omega) _
 ·rintro D ex pre F Y hD hfD ⟨t,ht⟩ ⟨_,rfl,h1,⟨c,rfl,h2⟩,h3,h4⟩ hdef;refine⟨_,rfl,hdef,i64 (c:Nat),?_,.bool true,?_,?_,?_⟩
  ·exact zb (za ((zg (by omega)).trans h2)) (i:=0) rfl
  ·exact zb (za ((zg (by omega)).trans h3)) (i:=0) rfl
  ·rw [<- ht];rfl
  ·exact qO h4 (by omega) _
def zC:Enc UInt8:=⟨fun b=>[u8 b],1,fun _=>rfl,by decide,fun a u hu=>by
 simp only [UC,Qw,Gl] at hu;subst hu;rfl⟩
def j9 (n:Int):Nat:=if n<1 then 0 else if 64<=n then 18446744073709551615 else 2^n.toNat-1
theorem zaF (n:Int):j9 n<2^64:=by
 unfold j9
 split
 ·decide
 split
 ·decide
 ·have:=qc (k:=n.toNat) (by omega);omega
theorem zh8 {n:Int} {w:Wd}:Calls PG 51 #[i64 n] w fun e w'=>e = .returned (s64 (j9 n))/\w=w':=by
 refine zI 10 [i64 n] Tryz.func51 ?_;refine biE (fun h=>?_) fun h=>?_
 ·have h:n<1:=dT h;exact⟨by unfold j9;rw [Gp h];rfl,rfl⟩
 ·have h:¬ n<1:=dF h;refine biE (fun h2=>?_) fun h2=>?_
  ·have h2:64<=n:=dT h2;exact⟨by unfold j9;rw [Gn h,Gp h2];rfl,rfl⟩
  ·have h2:¬ 64<=n:=dF h2;obtain⟨k,rfl⟩:∃ k:Nat,n=k:=⟨n.toNat,by omega⟩;have hk:k<64:=by omega
   have hp:=qc hk;have hp0:=Ud k;refine⟨by omega,_,zar hk,?_⟩;refine⟨((2^k-1:Nat):Int),?_,?_⟩
   ·generalize 2^k=m at hp hp0 ⊢;exact (w64 (a:=(m:Int)-1) (by omega)).trans (by omega)
   ·exact⟨by unfold j9;rw [Gn h,Gn h2];rfl,rfl⟩
def zw:Enc Nat:=⟨fun n=>[i64 (n:Nat)],1,fun _=>rfl,by decide,fun a u hu=>by
 simp only [UC,Qw,Gl] at hu;subst hu;rfl⟩
theorem zew (s:Nat):(els s).length<=64:=by
 have:=JM (fun i=>s.testBit i) (List.range 64);rw [KW] at this;exact this
def zax (to:Nat->Nat):List Value:=(List.range 48).map fun i=>s64 (to i)
def zi (r:RelD):List Value:=i64 r.n::zax r.to
def zZ (to:Nat->Nat):Prop:=∀ i,i<48->to i<2^64
theorem zaW (to:Nat->Nat):(zax to).length=48:=by unfold zax;rw [QN,KW]
theorem zcn (to:Nat->Nat) {i:Nat} (h:i<48):(zax to)[i]?=some (s64 (to i)):=by
 unfold zax;rw [KV,Ki h];rfl
theorem zk (r:RelD):(zi r).length=49:=by unfold zi;rw [Qt,zaW]
theorem ziq (r:RelD) {i:Nat} (h:i<48):(zi r)[1+i]?=some (s64 (r.to i)):=by
 unfold zi;rw [UK,Jw,zcn _ h]
theorem znQ (to:Nat->Nat) {i:Nat} (h:i<48) (v:Nat):(zax to).set i (s64 v)=zax (upd to i v):=by
 apply KR;intro j;by_cases hj:j<48
 ·rw [zcn _ hj];by_cases e:i=j
  ·subst e;rw [JE (by rw [zaW];exact h),zL]
  ·rw [JV e,zcn _ hj,qr _ _ (fun h=>e h.symm)]
 ·rw [JK (by rw [QQ,zaW];omega),JK (by rw [zaW];omega)]
theorem zeb (r:RelD) {i:Nat} (h:i<48) (v:Nat):(zi r).set (1+i) (s64 v)=zi ⟨r.n,upd r.to i v⟩:=by
 unfold zi;rw [UK,KD,znQ _ h]
theorem qo (r:RelD):(zi r).all Value.oneCell'=true:=by
 unfold zi zax;rw [UA,List.all_map];rw [bAT,Qk];exact⟨rfl,fun x _=>rfl⟩
theorem zo3 {S:Sig} {g:Nat} {caps:Array Value} {vs:List Value} {w:Wd} {K:Value->Wd->Prop} {KP:List PanicEntry->Wd->Prop} {R:Ending->Wd->Prop} (hok:zac S g=true)
  (h:Calls S.P g (vs++caps.toList).toArray w R) (k:∀ e w',R e w'->∃ v,e = .returned v/\K v w'):zme S (.func (.func g) #[] caps) vs w K KP:=by
 unfold zme;dsimp only;rw [hok];exact CallR.mk h k
theorem zaj (n:Int):jP n=j9 n:=rfl
theorem zaX (a b:Nat):zaz a b=qH a b:=rfl
section
variable {r:RelD} {w:Wd}
theorem zbI (hr:zZ r.to):CB 31 #[.agg (zi r).toArray] w (.bool (okR r)):=by
 refine zI 38 [.agg (zi r).toArray] Tryz.func31 ?_;have f0:=zz w (.cells (zi r).toArray 48);have hb:Bw w (w.alloc (.cells (zi r).toArray 48)):=zba w _;obtain⟨X,hX⟩:=nm (w.alloc (.cells (zi r).toArray 48));have hX':w.alloc (.cells (Value.agg (zi r).toArray).cells 48)=X:=hX.symm;rw [<- hX] at f0 hb;have hn:X.cell? ⟨w.heap.size,0+0,none⟩=some (i64 r.n):=zb (za f0) (i:=0) rfl;have out:∀ b,okR r=b->(∀ h:Ending.returned (.bool b)=Ending.returned (.bool (okR r)),True):=fun _ _ _=>trivial;refine⟨i64 r.n,by rw [hX'];exact hn,?_⟩;rw [hX'];refine biE (fun h=>?_) fun h=>?_
 ·have h:r.n<0:=dT h;refine brT ?_;exact⟨rb (by unfold okR;rw [Uh (by omega)];rfl),hb⟩
 have h:¬ r.n<0:=dF h;refine⟨i64 r.n,hn,?_⟩;refine biE (fun h2=>?_) fun h2=>?_
 ·have h2:(48:Int)<r.n:=dT h2;exact⟨rb (by unfold okR;rw [Uh (show ¬ r.n<=48 by omega),Uj,Ui]),hb⟩
 have h2:¬ (48:Int)<r.n:=dF h2;have ok0:okR r=(List.range 48).all (zbq r):=by
  unfold okR;rw [Us (by omega),Us (by omega)];rfl
 rw [ok0];refine⟨i64 r.n,hn,?_⟩;refine cmo zh8 ?_;rintro e _ ⟨rfl,rfl⟩;refine⟨zax r.to,zaW _,?_,hlt f0,?_⟩
 ·have:=zF (n:=1) (m:=48) (za f0);have e:((zi r).toArray.toList.drop 1).take 48=zax r.to:=by
   show (zax r.to).take 48=_;rw [JH (by rw [zaW];exact UW _)]
  rw [e] at this;exact this
 refine⟨Nat,fun k=>⟨[(1,.pointer (some ⟨w.heap.size,0,none⟩)),(3,s64 (j9 r.n)),(18,.agg (zax r.to).toArray),(19,i64 (k:Nat))],[]⟩,fun k Y=>X=Y/\k<=48/\∀ i,i<k->zbq r i=true,fun k=>48-k,0,
  (cvE rfl rfl),⟨rfl,UZ _,fun i hi=>by omega⟩,?_⟩
 rintro k _ ⟨rfl,hk,hall⟩;refine biE (fun hc=>?_) fun hc=>?_
 ·have hc:(k:Int)<48:=dT hc;have hk':k<48:=by omega
  refine⟨k,rfl,hk',?_⟩;refine zaa (by rw [UX];exact zcn _ hk') ?_;refine⟨_,zb0 (hr k hk') (zaF _),?_⟩;have no:zbq r k=false->(List.range 48).all (zbq r)=false:=fun h=>by
   rw [KN];exact⟨k,Uo.2 hk',by rw [h];exact Kv⟩
  refine biE (fun h3=>?_) fun h3=>?_
  ·have h3:(!decide (((qH (r.to k) (j9 r.n):Nat):Int)=0))=true:=h3;have h3:¬ zaz (r.to k) (jP r.n)=0:=fun e=>by
    rw [zaX,zaj] at e;rw [e] at h3;exact Gq h3 (by decide)
   refine brT ?_;exact⟨rb (no (by unfold zbq;rw [Uh h3];rfl)).symm,hb⟩
  have h3:(!decide (((qH (r.to k) (j9 r.n):Nat):Int)=0))=false:=h3;have h3:zaz (r.to k) (jP r.n)=0:=by
   have h4:decide (((qH (r.to k) (j9 r.n):Nat):Int)=0)=true:=by simpa using h3
   exact Uz (dT h4)
  refine⟨i64 r.n,hn,?_⟩;have next:zbq r k=true->∀ {K:Prop},(∀ k',k'=k+1->(∀ i,i<k'->zbq r i=true)->K)->K:=fun h K hK=>hK _ rfl fun i hi=>by
   by_cases e:i=k
   ·rw [e];exact h
   ·exact hall i (by omega)
  have fin:zbq r k=true->∃ s':Nat,s'=k+1/\(X=X/\s'<=48/\∀ i,i<s'->zbq r i=true):=fun h=>next h fun k' e h=>⟨k',e,rfl,by omega,h⟩
  refine biE (fun h4=>?_) fun h4=>?_
  ·have h4:r.n<=(k:Int):=dT h4;refine biE (fun h5=>?_) fun h5=>?_
   ·have h5:(!decide (((r.to k:Nat):Int)=0))=true:=h5;have h5:¬ r.to k=0:=fun e=>by
     rw [e] at h5;exact Gq h5 (by decide)
    exact⟨rb (no (by unfold zbq;rw [Us h3,Uh (by omega),Uh h5];rfl)).symm,hb⟩
   ·have h5:(!decide (((r.to k:Nat):Int)=0))=false:=h5;have h5:r.to k=0:=by
     have h6:decide (((r.to k:Nat):Int)=0)=true:=(by simpa using h5);exact Uz (dT h6)
    obtain⟨s',e,hs⟩:=fin (by unfold zbq;rw [Us h3,Us h5];simp);refine nxI (by omega) ?_;exact⟨s',⟨.cons rfl (.cons rfl (.cons rfl (.cons (by rw [e];rfl) .nil))),rfl⟩,hs,by show 48-s'<48-k;omega⟩
  ·have h4:¬ r.n<=(k:Int):=dF h4;refine brF ?_;obtain⟨s',e,hs⟩:=fin (by unfold zbq;rw [Us h3,Us (by omega)];rfl);refine nxI (by omega) ?_;exact⟨s',⟨.cons rfl (.cons rfl (.cons rfl (.cons (by rw [e];rfl) .nil))),rfl⟩,hs,by show 48-s'<48-k;omega⟩
 ·have hc:¬ (k:Int)<48:=dF hc;obtain rfl:k=48:=by omega
  refine⟨rb ?_,hb⟩;symm;rw [Qk];exact fun i hi=>hall i (Uo.1 hi)
theorem zqA {n g:Nat} {caps:Array Value} {row:Nat->Nat} (hn:n<=48) (hok:zac (sg 0) g=true) (zdt:∀ a X,a<n->Bw w X->Calls PG g (i64 (a:Nat)::caps.toList).toArray X fun e Y=>e = .returned (s64 (row a))/\Bw X Y) :
  CB 110 #[i64 n,.func (.func g) #[] caps] w (.agg (zi (zbB n row)).toArray):=by
 refine je 21 [i64 n,.func (.func g) #[] caps] (.s .p (.c .p .p)) Tryz.func110 ?_;obtain⟨L,hL⟩:=nm (w.heap.size);refine⟨Unit,fun _=>⟨[(0,i64 n),(1,.func (.func g) #[] caps),(4,At0 L),(5,At0 (L+1))],[]⟩,fun _ X=>X.heap[L]?=some (.cells (zi jx).toArray 48 (0,0))/\X.heap[L+1]?=some (.cells (zi ⟨n,fun _=>0⟩).toArray 48 (0,0))/\X.heap.size=L+2/\Bw w X,?_,?_⟩
 ·have h1:=zz w (.cells (zi jx).toArray 48);have s1:=wz w (.cells (zi jx).toArray 48);have h2:=zz (w.alloc (.cells (zi jx).toArray 48)) (.cells (zi jx).toArray 48);have s2:=wz (w.alloc (.cells (zi jx).toArray 48)) (.cells (zi jx).toArray 48);have b2:Bw w ((w.alloc (.cells (zi jx).toArray 48)).alloc (.cells (zi jx).toArray 48)):=((zba w _)).alloc (by simp) _;refine⟨zi ⟨n,fun _=>0⟩,rfl,?_⟩;refine zE (v := .agg (zi ⟨n,fun _=>0⟩).toArray) k48 h2 rfl rfl (qo _) ?_;rw [s1] at h2 s2;refine⟨(),⟨.cons rfl (.cons rfl (.cons (by rw [hL];rfl) (.cons (by rw [hL,<- s1];rfl) .nil))),rfl⟩,?_,?_,?_,?_⟩
  ·rw [hL];exact (zr (by rw [s1];omega)).trans (qF _ h1)
  ·rw [hL,s1];exact zx h2
  ·rw [hL];simp
  ·exact zy b2 (by omega) _
 rintro _ X ⟨f0,f1,sX,hbX⟩;refine⟨Nat,fun k=>⟨[(1,.func (.func g) #[] caps),(4,At0 L),(5,At0 (L+1)),(9,i64 n),(10,i64 (k:Nat))],[]⟩,fun k Y=>k<=n/\Y.heap[L]?=some (.cells (zi jx).toArray 48 (0,0))/\Y.heap[L+1]?=some (.cells (zi (⟨n,fun i=>if i<k then row i else 0⟩)).toArray 48 (0,0))/\Bw w Y,fun k=>n-k,0,
  (cvE rfl rfl),⟨UZ _,f0,f1,hbX⟩,?_⟩
 clear f0 f1 sX hbX X;rintro k X ⟨hk,f0,f1,hbX⟩;refine biE (fun hc=>?_) fun hc=>?_
 ·have hc:(k:Int)<(n:Int):=dT hc;have hkn:k<n:=by omega
  refine zo3 (S:=sg 21) hok (zdt k X hkn hbX) ?_;rintro e Y ⟨rfl,hbY⟩;refine⟨_,rfl,?_⟩;refine⟨k,rfl,by omega,?_⟩;have f1Y:=zc hbY f1;refine zj k45 f1Y (o:=0+1+k*1) (v:=s64 (row k)) rfl rfl (by rw [zk];omega) rfl fun Z fZ gZ sZ=>?_;rw [UR,UX,zeb _ (by omega)] at fZ;refine nxI (by omega) ?_;refine⟨k+1,(cvE rfl rfl),⟨hkn,(gZ.block L (hlt (zc hbY f0)) (by simp)).trans (zc hbY f0),?_,((zst hbX hbY)).trans (zh gZ ((zst hbX hbY)).size (by omega))⟩,zdc (by omega)⟩;have e:upd (fun i=>if i<k then row i else 0) k (row k)=fun i=>if i<k+1 then row i else 0:=by
   funext i;by_cases e:i=k
   ·subst e;rw [zL,Gp (by omega)]
   ·rw [qr _ _ e];by_cases h:i<k
    ·rw [Gp h,Gp (by omega)]
    ·rw [Gn h,Gn (by omega)]
  rw [<- e];exact fZ
 ·have hc:¬ (k:Int)<(n:Int):=dF hc;obtain rfl:k=n:=by omega
  refine⟨zi (zbB k row),zk _,za f1,hlt f1,?_⟩;refine zE (v := .agg (zi (zbB k row)).toArray) k48 f0 rfl rfl (qo _) ?_;exact⟨zi (zbB k row),zk _,za (zx f0),rfl,zy hbX (by omega) _⟩
end
def evE:Enc Ev:=⟨fun e=>[i64 e.th,u8 e.k,u8 e.l,u8 e.v,u8 e.m,u8 e.i,u8 e.p],7,fun _=>rfl,by decide,fun a u hu=>by
 simp only [UC,Qw,Gl] at hu;rcases hu with rfl | rfl | rfl | rfl | rfl | rfl | rfl <;> rfl⟩
def seg (n:Nat) (f:Nat->Value):List Value:=(List.range n).map f
def zdR (f:Nat->Ev):List Value:=((List.range 24).map f).flatMap evE.enc
def qA (R:RunD):List Value:=i64 R.pc::(seg 8 (fun i=>u8 (R.regs i))++(seg 8 (fun i=>s32 (R.deps i))++([s32 R.ctl,i64 R.many]++(zdR R.ev ++
 (seg 24 (fun i=>s32 (R.data i))++(seg 24 (fun i=>s32 (R.ctrl i))++seg 24 (fun i=>s32 (R.att i))))))))
theorem zo (n:Nat) (f:Nat->Value):(seg n f).length=n:=by unfold seg;rw [QN,KW]
theorem zbO (f:Nat->Ev):(zdR f).length=168:=by
 unfold zdR;rw [qp,QN,KW];rfl
theorem zaJ {n:Nat} (f:Nat->Value) {i:Nat} (h:i<n):(seg n f)[i]?=some (f i):=by
 unfold seg;rw [KV,Ki h];rfl
theorem zih {n:Nat} (f g:Nat->Value) {i:Nat} (h:i<n) (hg:g i=g i) (hs:∀ j,j≠i->g j=f j):(seg n f).set i (g i)=seg n g:=by
 apply KR;intro j;by_cases hj:j<n
 ·rw [zaJ g hj];by_cases e:i=j
  ·subst e;rw [JE (by rw [zo];exact h)]
  ·rw [JV e,zaJ f hj,hs j (fun h=>e h.symm)]
 ·rw [JK (by rw [QQ,zo];omega),JK (by rw [zo];omega)]
theorem jr {A B:List Value} {n i:Nat} (h:A.length=n):(A++B)[n+i]?=B[i]?:=by
 rw [Jn (by omega),h,Jz]
theorem zfN {B:List Value} {n i:Nat} {f:Nat->Value} (h:i<n):(seg n f++B)[i]?=some (f i):=by
 rw [Jr (by rw [zo];exact h),zaJ f h]
theorem qs {A B:List Value} {n i:Nat} (h:A.length=n) {v:Value}:(A++B).set (n+i) v=A++B.set i v:=by
 rw [JP _ _ (by omega),h,Jz]
theorem zd2 {B:List Value} {n i:Nat} {f:Nat->Value} (g:Nat->Value) (h:i<n) (hs:∀ j,j≠i->g j=f j):(seg n f++B).set i (g i)=seg n g++B:=by
 rw [List.set_append_left _ _ (by rw [zo];exact h),zih f g h rfl hs]
theorem jz (R:RunD):(qA R).length=259:=by
 unfold qA;simp only [Qt,lap,zo,zbO,QO]
section
variable (R:RunD)
theorem zpA {i:Nat} (h:i<8):(qA R)[1+i]?=some (u8 (R.regs i)):=by
 unfold qA;rw [UK,Jw,zfN h]
theorem zpB {i:Nat} (h:i<8):(qA R)[9+i]?=some (s32 (R.deps i)):=by
 unfold qA;rw [show 9+i=(8+i)+1 by omega,Jw,jr (zo _ _),zfN h]
theorem zf6:∃ A,A.length=16/\qA R=i64 R.pc::(A++([s32 R.ctl,i64 R.many]++(zdR R.ev++(seg 24 (fun i=>s32 (R.data i))++(seg 24 (fun i=>s32 (R.ctrl i))++seg 24 (fun i=>s32 (R.att i))))))) :=
 ⟨seg 8 (fun i=>u8 (R.regs i))++seg 8 (fun i=>s32 (R.deps i)),by rw [lap,zo,zo],by unfold qA;rw [KQ]⟩
theorem zlw:(qA R)[17]?=some (s32 R.ctl):=by
 obtain⟨A,hA,e⟩:=zf6 R;rw [e];exact (jr (i:=0) hA).trans rfl
theorem zbp:(qA R)[18]?=some (i64 R.many):=by
 obtain⟨A,hA,e⟩:=zf6 R;rw [e];exact (jr (i:=1) hA).trans rfl
theorem zjm {i:Nat} (h:i<24):(qA R)[187+i]?=some (s32 (R.data i)):=by
 obtain⟨A,hA,e⟩:=zf6 R;rw [e,show 187+i=(16+(2+(168+i)))+1 by omega,Jw,jr hA,jr (A:=[s32 R.ctl,i64 R.many]) (n:=2) rfl,jr (zbO _),zfN h]
theorem zjn {i:Nat} (h:i<24):(qA R)[211+i]?=some (s32 (R.ctrl i)):=by
 obtain⟨A,hA,e⟩:=zf6 R;rw [e,show 211+i=(16+(2+(168+(24+i))))+1 by omega,Jw,jr hA,jr (A:=[s32 R.ctl,i64 R.many]) (n:=2) rfl,jr (zbO _),jr (zo _ _),zfN h]
theorem zij {i:Nat} (h:i<24):(qA R)[235+i]?=some (s32 (R.att i)):=by
 obtain⟨A,hA,e⟩:=zf6 R;rw [e,show 235+i=(16+(2+(168+(24+(24+i)))))+1 by omega,Jw,jr hA,jr (A:=[s32 R.ctl,i64 R.many]) (n:=2) rfl,jr (zbO _),jr (zo _ _),jr (zo _ _),zaJ _ h]
theorem zf7 (n:Nat):(qA R).set 0 (i64 n)=qA { R with pc:=n }:=rfl
theorem zji {i:Nat} (h:i<8) (v:UInt8):(qA R).set (1+i) (u8 v)=qA { R with regs:=upd R.regs i v }:=by
 unfold qA;rw [UK,KD];have:=zd2 (B:=seg 8 (fun i=>s32 (R.deps i))++([s32 R.ctl,i64 R.many]++(zdR R.ev++(seg 24 (fun i=>s32 (R.data i))++(seg 24 (fun i=>s32 (R.ctrl i))++seg 24 (fun i=>s32 (R.att i))))))) (f:=fun i=>u8 (R.regs i)) (fun j=>u8 (upd R.regs i v j)) h (fun j hj=>by rw [qr _ _ hj]);rw [zL] at this;rw [this]
theorem zjj {i:Nat} (h:i<8) (v:Nat):(qA R).set (9+i) (s32 v)=qA { R with deps:=upd R.deps i v }:=by
 unfold qA;rw [show 9+i=(8+i)+1 by omega,KD,qs (zo _ _)];have:=zd2 (B:=[s32 R.ctl,i64 R.many]++(zdR R.ev++(seg 24 (fun i=>s32 (R.data i))++(seg 24 (fun i=>s32 (R.ctrl i))++seg 24 (fun i=>s32 (R.att i)))))) (f:=fun i=>s32 (R.deps i)) (fun j=>s32 (upd R.deps i v j)) h (fun j hj=>by rw [qr _ _ hj]);rw [zL] at this;rw [this]
theorem zjk (v:Nat):(qA R).set 17 (s32 v)=qA { R with ctl:=v }:=by
 unfold qA;show i64 R.pc::(seg 8 (fun i=>u8 (R.regs i))++_).set (8+(8+0)) (s32 v)=_;rw [qs (zo _ _),qs (zo _ _)];rfl
theorem zii (v:Nat):(qA R).set 18 (i64 v)=qA { R with many:=v }:=by
 unfold qA;show i64 R.pc::(seg 8 (fun i=>u8 (R.regs i))++_).set (8+(8+1)) (i64 v)=_;rw [qs (zo _ _),qs (zo _ _)];rfl
theorem zd5 {i:Nat} (h:i<24) (v:Nat):(qA R).set (187+i) (s32 v)=qA { R with data:=upd R.data i v }:=by
 unfold qA;rw [show 187+i=(8+(8+(2+(168+i))))+1 by omega,KD,qs (zo _ _),qs (zo _ _),qs (A:=[s32 R.ctl,i64 R.many]) (n:=2) rfl,qs (zbO _)];have:=zd2 (B:=seg 24 (fun i=>s32 (R.ctrl i))++seg 24 (fun i=>s32 (R.att i))) (f:=fun i=>s32 (R.data i)) (fun j=>s32 (upd R.data i v j)) h (fun j hj=>by rw [qr _ _ hj]);rw [zL] at this;rw [this]
theorem zd6 {i:Nat} (h:i<24) (v:Nat):(qA R).set (211+i) (s32 v)=qA { R with ctrl:=upd R.ctrl i v }:=by
 unfold qA;rw [show 211+i=(8+(8+(2+(168+(24+i)))))+1 by omega,KD,qs (zo _ _),qs (zo _ _),qs (A:=[s32 R.ctl,i64 R.many]) (n:=2) rfl,qs (zbO _),qs (zo _ _)];have:=zd2 (B:=seg 24 (fun i=>s32 (R.att i))) (f:=fun i=>s32 (R.ctrl i)) (fun j=>s32 (upd R.ctrl i v j)) h (fun j hj=>by rw [qr _ _ hj]);rw [zL] at this;rw [this]
theorem zjl {i:Nat} (h:i<24) (v:Nat):(qA R).set (235+i) (s32 v)=qA { R with att:=upd R.att i v }:=by
 unfold qA;rw [show 235+i=(8+(8+(2+(168+(24+(24+i))))))+1 by omega,KD,qs (zo _ _),qs (zo _ _),qs (A:=[s32 R.ctl,i64 R.many]) (n:=2) rfl,qs (zbO _),qs (zo _ _),qs (zo _ _)];have:=zih (fun i=>s32 (R.att i)) (fun j=>s32 (upd R.att i v j)) h rfl (fun j hj=>by rw [qr _ _ hj]);rw [zL] at this;rw [this]
theorem zpS {α:Type} (f:Nat->α) {n i:Nat} (h:i<n) (v:α):((List.range n).map f).set i v=(List.range n).map (upd f i v):=by
 apply KR;intro j;by_cases hj:j<n
 ·rw [KV,Ki hj];by_cases e:i=j
  ·subst e;rw [JE (by simpa using h)];show _=some (upd f i v i);rw [zL]
  ·rw [JV e,KV,Ki hj];show some (f j)=some (upd f i v j);rw [qr _ _ (fun h=>e h.symm)]
 ·rw [JK (by simp;omega),JK (by simp;omega)]
theorem zky {i:Nat} (h:i<24) (v:Ev):(qA R).take (19+i*7)++evE.enc v++(qA R).drop (19+i*7+7)=qA { R with ev:=upd R.ev i v }:=by
 obtain⟨A,hA,e⟩:∃ A:List Value,A.length=19/\∀ ev,qA { R with ev:=ev }=A++(zdR ev++(seg 24 (fun i=>s32 (R.data i))++(seg 24 (fun i=>s32 (R.ctrl i))++seg 24 (fun i=>s32 (R.att i))))) :=
  ⟨i64 R.pc::(seg 8 (fun i=>u8 (R.regs i))++(seg 8 (fun i=>s32 (R.deps i))++[s32 R.ctl,i64 R.many])),by
   simp only [Qt,lap,zo,QO],fun ev=>by
   unfold qA;simp only [Qm,KQ,QU]⟩
 have e1:qA R=_:=e R.ev;rw [e1,e,<- hA,List.take_length_add_append,UD,Jk];have:=zjV (E:=evE) ((List.range 24).map R.ev) (i:=i) (by simpa using h) v (seg 24 (fun i=>s32 (R.data i))++(seg 24 (fun i=>s32 (R.ctrl i))++seg 24 (fun i=>s32 (R.att i))));rw [zpS _ h] at this;unfold zdR;rw [KQ,KQ,<- this,KQ];rfl
end
theorem zoH (f:Nat->Ev) {i:Nat} (h:i<24):((zdR f).drop (i*7)).take 7=evE.enc (f i):=by
 unfold zdR;have:=zer (E:=evE) ((List.range 24).map f) i (by simpa using h);rw [Qr,Kz] at this;exact this
theorem zlv {R:RunD} {w:Wd} {b:Nat} {t:TypeId} (f:w.heap[b]?=some (.cells (qA R).toArray t (0,0))):zu w ⟨b,19,none⟩ (zdR R.ev):=by
 have h:=za f;unfold qA at h;have h1:=zF (n:=19) (m:=168) h;have e:((i64 R.pc::(seg 8 (fun i=>u8 (R.regs i))++(seg 8 (fun i=>s32 (R.deps i))++([s32 R.ctl,i64 R.many]++(zdR R.ev++(seg 24 (fun i=>s32 (R.data i))++(seg 24 (fun i=>s32 (R.ctrl i))++seg 24 (fun i=>s32 (R.att i))))))))).drop 19).take 168=zdR R.ev:=by
  show ((seg 8 (fun i=>u8 (R.regs i))++_).drop (8+(8+2))).take 168=_;have d:∀ {A B:List Value} {n i:Nat},A.length=n->(A++B).drop (n+i)=B.drop i:=fun {A B n i} h=>by rw [<- h,Jk]
  rw [d (zo _ _),d (zo _ _)];show (zdR R.ev++_).take 168=_;rw [QX (zbO _)]
 rw [<- e];exact h1
def bs (l:List UInt8):ByteArray:=⟨l.toArray⟩
def qk (l:List UInt8):Value := .string (bs l)
theorem zqB (l:List UInt8):(bs l).data.toList=l:=rfl
theorem jc (x y:Operand) (a b:List UInt8) (w:Wd):(do eqGuard .eql 9 x y (qk a) (qk b);binOp .eql 9 (qk a) (qk b)).run PG w = .ok (.bool (decide (a=b))) w:=by
 have h1:(eqGuard .eql 9 x y (qk a) (qk b)).run PG w = .ok () w:=rfl;rw [UT,h1,Qb];show (Op.stringOp .eql (bs a) (bs b)).run PG w=_;simp only [Op.stringOp,UU,ByteArray.toList_eq,zqB];have hd:(a == b)=decide (a=b):=by by_cases h:a=b <;> simp [h]
 rw [hd]
def zjI:Enc (List UInt8):=⟨fun l=>[qk l],1,fun _=>rfl,by decide,fun a u hu=>by
 simp only [UC,Qw,Gl] at hu;subst hu;rfl⟩
def zG:Enc InsD:=⟨fun x=>[u8 x.op,u8 x.dst,u8 x.loc,.bool x.ar,u8 x.an,.bool x.br,u8 x.bn,u8 x.fn,u8 x.mode,u8 x.skip],10,fun _=>rfl,by decide,fun a u hu=>by
 simp only [UC,Qw,Gl] at hu;rcases hu with rfl | rfl | rfl | rfl | rfl | rfl | rfl | rfl | rfl | rfl <;> rfl⟩
abbrev zlh:=List InsD×OA×Nat
def zg5 (x:zlh):Value := .slice x.2.1 x.1.length x.2.2
def znB:Enc zlh:=⟨fun x=>[zg5 x],1,fun _=>rfl,by decide,fun a u hu=>by
 simp only [UC,Qw,Gl] at hu;subst hu;rfl⟩
def jO (c:Cnd) (p:OA) (cap:Nat):List Value:=[u8 c.kind,u8 c.thread,u8 c.n,u8 c.val,.slice p c.kids.length cap]
inductive KidsV (B:Nat) (w:Wd):OA->List Cnd->Prop
 | mk (p:OA) (kids:List Cnd) (hn:kids.length*32<=140737488351232) (b o:Nat) (hp:kids.length=0\/p=some ⟨b,o,none⟩) (q:Nat->OA) (c:Nat->Nat)
   (hk:∀ i (h:i<kids.length),b<B/\zu w ⟨b,o+i*5,none⟩ (jO kids[i] (q i) (c i)))
   (ht:∀ i (h:i<kids.length),KidsV B w (q i) kids[i].kids):KidsV B w p kids
theorem KidsV.inv {B:Nat} {w:Wd} {p:OA} {kids:List Cnd} (h:KidsV B w p kids):kids.length*32<=140737488351232/\∃ b o,(kids.length=0\/p=some ⟨b,o,none⟩) /\
  ∀ i (h:i<kids.length),∃ q c,b<B/\zu w ⟨b,o+i*5,none⟩ (jO kids[i] q c)/\KidsV B w q kids[i].kids:=by
 cases h with
 | mk _ _ hn b o hp q c hk ht=>exact⟨hn,b,o,hp,fun i hi=>⟨q i,c i,(hk i hi).1,(hk i hi).2,ht i hi⟩⟩
theorem KidsV.kept {B:Nat} {w w2:Wd} {p:OA} {kids:List Cnd} (h:KidsV B w p kids) (hb:Below B w w2):KidsV B w2 p kids:=by
 induction h with
 | mk p kids hn b o hp q c hk ht ih=>exact .mk p kids hn b o hp q c (fun i hi=>⟨(hk i hi).1,jL hb (hk i hi).1 (hk i hi).2⟩) ih
theorem KidsV.wider {B B':Nat} {w:Wd} {p:OA} {kids:List Cnd} (h:KidsV B w p kids) (hb:B<=B'):KidsV B' w p kids:=by
 induction h with
 | mk p kids hn b o hp q c hk ht ih=>exact .mk p kids hn b o hp q c (fun i hi=>⟨nL (hk i hi).1 hb,(hk i hi).2⟩) ih
def ThrsV (B:Nat) (w:Wd) (p:OA) (l:List (List InsD)):Prop:=∃ xs:List zlh,xs.map (·.1)=l/\RowB znB B w p xs/\∀ x∈xs,RowB zG B w x.2.1 x.1
theorem ThrsV.below {B:Nat} {w w2:Wd} {p:OA} {l:List (List InsD)} (h:ThrsV B w p l) (hb:Below B w w2):ThrsV B w2 p l:=by
 obtain⟨xs,h1,h2,h3⟩:=h;exact⟨xs,h1,h2.below hb,fun x hx=>(h3 x hx).below hb⟩
theorem ThrsV.mono {B B':Nat} {w:Wd} {p:OA} {l:List (List InsD)} (h:ThrsV B w p l) (hb:B<=B'):ThrsV B' w p l:=by
 obtain⟨xs,h1,h2,h3⟩:=h;exact⟨xs,h1,h2.mono hb,fun x hx=>(h3 x hx).mono hb⟩
def qB (p:Prg) (p1:OA) (c1:Nat) (p2:OA) (c2:Nat) (p3:OA) (c3:Nat) (p4:OA) (c4:Nat):List Value :=
 [qk p.name,.slice p1 p.locs.length c1,.slice p2 p.init.length c2,.slice p3 p.threads.length c3,u8 p.ask,u8 p.cond.kind,u8 p.cond.thread,u8 p.cond.n,u8 p.cond.val,.slice p4 p.cond.kids.length c4]
structure PrgLen (p:Prg):Prop where
 name:p.name.length<=140737488351232
 locs:p.locs.length<=140737488351232
 loc:∀ s∈p.locs,s.length<=140737488351232
 init:p.init.length<=140737488351232
 threads:p.threads.length<=140737488351232
 thread:∀ l∈p.threads,l.length<=140737488351232
structure PrgV (B:Nat) (w:Wd) (vs:List Value) (p:Prg):Prop where
 len:PrgLen p
 h:∃ p1 c1 p2 c2 p3 c3 p4 c4,vs=qB p p1 c1 p2 c2 p3 c3 p4 c4/\RowB zjI B w p1 p.locs/\RowB zC B w p2 p.init/\ThrsV B w p3 p.threads/\KidsV B w p4 p.cond.kids/\p.locs.length<=c1
theorem PrgV.below {B:Nat} {w w2:Wd} {vs:List Value} {p:Prg} (h:PrgV B w vs p) (hb:Below B w w2):PrgV B w2 vs p:=by
 obtain⟨p1,c1,p2,c2,p3,c3,p4,c4,h0,h1,h2,h3,h4,h5⟩:=h.h;exact⟨h.len,p1,c1,p2,c2,p3,c3,p4,c4,h0,h1.below hb,h2.below hb,h3.below hb,h4.kept hb,h5⟩
theorem PrgV.mono {B B':Nat} {w:Wd} {vs:List Value} {p:Prg} (h:PrgV B w vs p) (hb:B<=B'):PrgV B' w vs p:=by
 obtain⟨p1,c1,p2,c2,p3,c3,p4,c4,h0,h1,h2,h3,h4,h5⟩:=h.h;exact⟨h.len,p1,c1,p2,c2,p3,c3,p4,c4,h0,h1.mono hb,h2.mono hb,h3.mono hb,h4.wider hb,h5⟩
theorem PrgV.size {B:Nat} {w:Wd} {vs:List Value} {p:Prg} (h:PrgV B w vs p):vs.length=10:=by
 obtain⟨p1,c1,p2,c2,p3,c3,p4,c4,rfl,_⟩:=h.h;rfl
theorem w8N (u:Nat):IntKind.u8.wrap (u:Int)=((UInt8.ofNat u).toNat:Int):=by
 rw [KI];unfold IntKind.wrap;simp only [IntKind.bits,IntKind.signed,Uj,Ku,Gk];omega
abbrev jq (X:Wd) (b:Nat) (R:RunD):Prop:=X.heap[b]?=some (.cells (qA R).toArray 112 (0,0))
abbrev AtR (b:Nat):Value:=At0 b
section
variable {R:RunD} {b:Nat} {w:Wd}
theorem ze6 {k l v m:UInt8} {d:Nat} (f:jq w b R) (hm:R.many<24):Calls PG 133 #[AtR b,u8 k,u8 l,u8 v,u8 m,s32 d] w fun e w' =>
  e = .returned (i64 R.many)/\jq w' b (jK R k l v m d)/\w.grownBy w' (some b)/\w'.heap.size=w.heap.size:=by
 refine zI 58 [AtR b,u8 k,u8 l,u8 v,u8 m,s32 d] Tryz.func133 ?_;refine⟨_,zb (za f) (i:=18) (zbp R),?_⟩;refine DrawE.ord [17] [0,1,2,3,4,5,6,7,8,9,10,11,12,13,14,15,16,17] (by kernel_rfl) ?_;refine⟨_,zb (za (hdr f)) (i:=0) rfl,?_⟩;refine⟨_,w8N _,?_⟩;refine⟨_,w8N _,?_⟩;obtain⟨ev,hev⟩:∃ ev:Ev,ev=⟨0,k,l,v,m,UInt8.ofNat R.pc,UInt8.ofNat R.many⟩:=⟨_,rfl⟩;refine⟨evE.enc ev,by rw [hev];rfl,?_⟩;refine⟨R.many,rfl,hm,?_⟩;refine jV k60 (hdr f) (o:=0+19+R.many*7) (v := .agg (evE.enc ev).toArray) rfl (by
  show 0+19+R.many*7+7<=(qA R).length;rw [jz];omega) rfl fun Y fY gY sY=>?_
 have fY:jq Y b { R with ev:=upd R.ev R.many ev }:=by
  show Y.heap[b]?=some (.cells (qA { R with ev:=upd R.ev R.many ev }).toArray 112 (0,0));rw [<- zky R hm ev,fY,UR];rfl
 refine⟨R.many,rfl,hm,?_⟩;refine zj zkU fY (o:=0+187+R.many*1) (v:=s32 d) rfl rfl (by rw [jz];omega) rfl fun Z fZ gZ sZ=>?_;rw [UR,UX,zd5 _ hm] at fZ;refine DrawE.ord [9] [0,1,2,3,4,5,6,7,8,9] (by kernel_rfl) ?_;refine⟨_,zb (za (hdr fZ)) (i:=17) (zlw _),?_⟩;refine⟨R.many,rfl,hm,?_⟩;refine zj zkU (hdr fZ) (o:=0+211+R.many*1) (v:=s32 R.ctl) rfl rfl (by rw [jz];omega) rfl fun U fU gU sU=>?_;rw [UR,UX,zd6 _ hm] at fU;refine⟨_,zb (za fU) (i:=18) (zbp _),?_⟩;refine⟨((R.many+1:Nat):Int),(ze (by show _<=((R.many:Nat):Int)+1/\((R.many:Nat):Int)+1<=_;omega)).trans rfl,?_⟩;refine zj k3 fU (o:=0+18) (v:=i64 (R.many+1:Nat)) rfl rfl (by rw [jz];decide) rfl fun V fV gV sV=>?_;rw [UR,zii] at fV;have gd:w.grownBy w.drew (some b):=⟨rfl,rfl,rfl,UW _,fun _ _ _=>rfl⟩;have gd2:Z.grownBy Z.drew (some b):=⟨rfl,rfl,rfl,UW _,fun _ _ _=>rfl⟩;refine⟨rfl,?_,zd (zd (zd (zd gd gY) gZ) (zd gd2 gU)) gV,?_⟩
 ·unfold jK;rw [<- hev];exact fV
 ·rw [sV,sU];show Z.heap.size=_;rw [sZ,sY];rfl
theorem zlu {d v:UInt8} {s:Nat} (f:jq w b R) (hd:d.toNat<8):Calls PG 134 #[AtR b,u8 d,u8 v,s32 s] w fun e w' =>
  e = .returned (.tuple #[])/\jq w' b (zig R d v s)/\w.grownBy w' (some b)/\w'.heap.size=w.heap.size:=by
 refine zI 20 [AtR b,u8 d,u8 v,s32 s] Tryz.func134 ?_;refine⟨d.toNat,rfl,hd,?_⟩;refine zj k5 f (o:=0+1+d.toNat*1) (v:=u8 v) rfl rfl (by rw [jz];omega) rfl fun Y fY gY sY=>?_;rw [UR,UX,zji _ hd] at fY;refine⟨d.toNat,rfl,hd,?_⟩;refine zj zkU fY (o:=0+9+d.toNat*1) (v:=s32 s) rfl rfl (by rw [jz];omega) rfl fun Z fZ gZ sZ=>?_;rw [UR,UX,zjj _ hd] at fZ;exact⟨rfl,fZ,zd gY gZ,sZ.trans sY⟩
theorem za9 {r:Bool} {n:UInt8} (f:jq w b R) (hn:r=true->n.toNat<8):Calls PG 135 #[AtR b,.agg #[.bool r,u8 n]] w fun e w' =>
  e = .returned (.tuple #[u8 (qm r n R).1,s32 (qm r n R).2])/\Bw w w':=by
 refine zI 24 [AtR b,.agg #[.bool r,u8 n]] Tryz.func135 ?_;have f0:=zz w (.cells #[.bool r,u8 n] 39);have hb:Bw w (w.alloc (.cells #[.bool r,u8 n] 39)):=zba w _;refine⟨_,zb (za f0) (i:=0) rfl,?_⟩;refine biE (fun h=>?_) fun h=>?_
 ·have hn8:=hn h;have fr:=zc hb f;refine DrawE.ord [] [0,1,2,3,4,5,6,7,8,9,10,11,12,13,14,15] (by kernel_rfl) ?_;refine⟨_,zb (za (hdr f0)) (i:=1) rfl,?_⟩;refine⟨n.toNat,rfl,hn8,?_⟩;refine⟨_,by rw [UX,UD];exact zb (za (hdr fr)) (zpA R hn8),?_⟩;refine⟨_,zb (za (hdr f0)) (i:=1) rfl,?_⟩;refine⟨n.toNat,rfl,hn8,?_⟩;refine⟨_,by rw [UX,UD];exact zb (za (hdr fr)) (zpB R hn8),?_⟩;refine⟨?_,hb.trans ((Gb _ _).drew)⟩;unfold qm;rw [Gp h];rfl
 ·refine⟨_,zb (za f0) (i:=1) rfl,?_⟩;refine⟨?_,hb⟩;unfold qm;rw [Gn (by rw [h];exact Kv)];rfl
end
abbrev zcc (x:InsD):Value := .agg (zG.enc x).toArray
section
variable {R:RunD} {b:Nat} {w:Wd}
theorem zmG {x:InsD} {v:UInt8} (f:jq w b R) (hm:R.many<24) (hd:x.dst.toNat<8):Calls PG 93 #[AtR b,zcc x,u8 v] w fun e w' =>
  e = .returned (.tuple #[])/\jq w' b (zon R x v)/\w.grownBy w' (some b):=by
 refine zI 21 [AtR b,zcc x,u8 v] Tryz.func93 ?_;have f0:=zz w (.cells (zG.enc x).toArray 41);have hb:Bw w (w.alloc (.cells (zG.enc x).toArray 41)):=zba w _;have fr:=zc hb f;have hne:w.heap.size≠b:=fun e=>by have:=hlt f;omega
 refine⟨_,zb (za f0) (i:=2) rfl,_,zb (za f0) (i:=8) rfl,cmo (ze6 (k:=1) (l:=x.loc) (v:=v) (m:=x.mode) (d:=0) fr hm) ?_⟩;rintro e Y ⟨rfl,fY,gY,sY⟩;have f0Y:=(gY.block w.heap.size (hlt f0) (by simpa using hne)).trans f0;refine DrawE.ord [6] [0,1,2,3,4,5,6] (by kernel_rfl) ⟨_,zb (za (hdr f0Y)) (i:=1) rfl,by omega,_,zfD (e:=R.many) (by omega),cmo (zlu (d:=x.dst) (v:=v) (s:=2^R.many) (hdr fY) hd) ?_⟩;rintro e Z ⟨rfl,fZ,gZ,sZ⟩;have gd:Y.grownBy Y.drew (some b):=⟨rfl,rfl,rfl,UW _,fun _ _ _=>rfl⟩;exact⟨rfl,fZ,zd (zf hb) (zd gY (zd gd gZ))⟩
theorem zkz {x:InsD} {v:UInt8} (f:jq w b R) (hm:R.many<24) (ha:x.ar=true->x.an.toNat<8):Calls PG 94 #[AtR b,zcc x,u8 v] w fun e w' =>
  e = .returned (.tuple #[])/\jq w' b (zkt R x)/\w.grownBy w' (some b):=by
 refine zI 23 [AtR b,zcc x,u8 v] Tryz.func94 ?_;have f0:=zz w (.cells (zG.enc x).toArray 41);have hb:Bw w (w.alloc (.cells (zG.enc x).toArray 41)):=zba w _;have fr:=zc hb f;refine⟨[.bool x.ar,u8 x.an],rfl,qu (o:=3) (n:=2) f0,hlt f0,cmo (za9 fr ha) ?_⟩;rintro e Y ⟨rfl,hbY⟩;have f0Y:=zc hbY f0;have fY:=zc hbY fr;refine⟨_,zb (za f0Y) (i:=2) rfl,_,zb (za f0Y) (i:=8) rfl,cmo (ze6 (k:=2) (l:=x.loc) (v:=(qm x.ar x.an R).1) (m:=x.mode) (d:=(qm x.ar x.an R).2) fY hm) ?_⟩;rintro e Z ⟨rfl,fZ,gZ,sZ⟩;exact⟨rfl,fZ,zd (zf hb) (zd (zf hbY) gZ)⟩
theorem zkB {x:InsD} {v:UInt8} (f:jq w b R) (hm:R.many<24):Calls PG 99 #[AtR b,zcc x,u8 v] w fun e w' =>
  e = .returned (.tuple #[])/\jq w' b (zkZ R x)/\w.grownBy w' (some b):=by
 refine zI 10 [AtR b,zcc x,u8 v] Tryz.func99 ?_;have f0:=zz w (.cells (zG.enc x).toArray 41);have hb:Bw w (w.alloc (.cells (zG.enc x).toArray 41)):=zba w _;have fr:=zc hb f;refine⟨_,zb (za f0) (i:=8) rfl,cmo (ze6 (k:=3) (l:=0) (v:=0) (m:=x.mode) (d:=0) fr hm) ?_⟩;rintro e Z ⟨rfl,fZ,gZ,sZ⟩;exact⟨rfl,fZ,zd (zf hb) gZ⟩
end
def zs9 (x:InsD):Prop:=(x.op=1/\x.dst.toNat<8)\/(x.op=2/\(x.ar=true->x.an.toNat<8))\/x.op=7
def fnV (g:Nat):Value := .func (.func g) #[] #[]
def zqi:List Value:=[.nilFunc,fnV 93,fnV 94,fnV 95,fnV 96,fnV 97,fnV 98,fnV 99,fnV 100]
theorem zm3 {w:Wd}:CB 71 #[] w (.agg zqi.toArray):=by
 refine zI 2 [] Tryz.func71 ?_;have f0:=zz w (.cells (List.replicate 9 Value.nilFunc).toArray 145);have hb:Bw w (w.alloc (.cells (List.replicate 9 Value.nilFunc).toArray 145)):=zba w _;exact⟨zqi,rfl,zE (v := .agg zqi.toArray) zsZ f0 rfl rfl rfl ⟨zqi,rfl,za (zx f0),rfl,zy hb (UW _) _⟩⟩
theorem zat {x y:UInt8}:decide (((x.toNat:Nat):Int)=((y.toNat:Nat):Int))=decide (x=y):=QG.2 jj
theorem zpP {x y:UInt8}:decide (((x.toNat:Nat):Int)<((y.toNat:Nat):Int))=decide (x.toNat<y.toNat):=QG.2 Int.ofNat_lt
theorem zqP (a b:UInt8):IntKind.u8.wrap ((a.toNat:Int)+(b.toNat:Int))=((a+b).toNat:Int):=by
 rw [UInt8.toNat_add];unfold IntKind.wrap;simp only [IntKind.bits,IntKind.signed,Uj,Ku,Gk];omega
theorem zsf (a b:UInt8):IntKind.u8.wrap ((a.toNat:Int)-(b.toNat:Int))=((a-b).toNat:Int):=by
 rw [UInt8.toNat_sub];have:=a.toNat_lt;have:=b.toNat_lt;unfold IntKind.wrap;simp only [IntKind.bits,IntKind.signed,Uj,Ku,Gk];omega
theorem zse (a b:UInt8):IntKind.u8.wrap ((BitVec.ofInt IntKind.u8.bits (a.toNat:Int) ^^^ BitVec.ofInt IntKind.u8.bits (b.toNat:Int)).toNat:Int)=((a ^^^ b).toNat:Int):=by
 have e:∀ x:UInt8,(BitVec.ofInt IntKind.u8.bits (x.toNat:Int)).toNat=x.toNat:=fun x=>by
  have:=x.toNat_lt;rw [Kt];simp only [IntKind.bits];omega
 rw [BitVec.toNat_xor,e,e,<- UInt8.toNat_xor];have:=(a ^^^ b).toNat_lt;unfold IntKind.wrap;simp only [IntKind.bits,IntKind.signed,Uj,Ku,Gk];omega
structure RunS (R:RunD):Prop where
 d:∀ i,R.deps i<2^32
 c:R.ctl<2^32
 s:∀ i,R.data i<2^32/\R.ctrl i<2^32/\R.att i<2^32
theorem zjC {a b:Nat} (ha:a<2^32) (hb:b<2^32):a|||b<2^32:=KZ ha hb
theorem zlG {n:Nat} (h:n<32):2^n<2^32:=Kf (by decide) h
theorem zeK {f:Nat->Nat} {b:Nat} (h:∀ i,f i<b) {k v:Nat} (hv:v<b):∀ i,upd f k v i<b:=fun i=>by
 by_cases e:i=k
 ·rw [e,zL];exact hv
 ·rw [qr _ _ e];exact h i
theorem RunS.val {R:RunD} (h:RunS R) (r:Bool) (n:UInt8):(qm r n R).2<2^32:=by
 unfold qm
 split
 ·exact h.d _
 ·exact (by decide:0<2^32)
theorem RunS.emit {R:RunD} (h:RunS R) {k a v m:UInt8} {d:Nat} (hd:d<2^32):RunS (jK R k a v m d) :=
 ⟨h.d,h.c,fun i=>⟨zeK (fun i=>(h.s i).1) hd i,zeK (fun i=>(h.s i).2.1) h.c i,(h.s i).2.2⟩⟩
theorem RunS.set {R:RunD} (h:RunS R) {d v:UInt8} {s:Nat} (hs:s<2^32):RunS (zig R d v s):=⟨zeK h.d hs,h.c,h.s⟩
theorem RunS.exch {R:RunD} (h:RunS R) (hm:R.many<32) {x:InsD} {o v:UInt8} {d:Nat} (hd:d<2^32):RunS (zbz R x o v d):=by
 have h2:=(h.emit (k:=1) (a:=x.loc) (v:=o) (m:=3) (d:=0) (by decide)).emit (k:=2) (a:=x.loc) (v:=v) (m:=3) hd;exact RunS.set (R:={ jK (jK R 1 x.loc o 3 0) 2 x.loc v 3 d with att:=upd (jK (jK R 1 x.loc o 3 0) 2 x.loc v 3 d).att (R.many+1) (2^R.many) })
  ⟨h2.d,h2.c,fun i=>⟨(h2.s i).1,(h2.s i).2.1,zeK (fun i=>(h2.s i).2.2) (zlG hm) i⟩⟩ (zlG hm)
section
variable {R:RunD} {b:Nat} {w:Wd} {x:InsD} {v:UInt8}
theorem zk0 {o v:UInt8} {d:Nat} (f:jq w b R) (hm:R.many<23) (hd:x.dst.toNat<8):Calls PG 136 #[AtR b,zcc x,u8 o,u8 v,s32 d] w fun e w' =>
  e = .returned (i64 (R.many+1:Nat))/\jq w' b (zbz R x o v d)/\w.grownBy w' (some b):=by
 refine zI 39 [AtR b,zcc x,u8 o,u8 v,s32 d] Tryz.func136 ?_;have f0:=zz w (.cells (zG.enc x).toArray 41);have hb:Bw w (w.alloc (.cells (zG.enc x).toArray 41)):=zba w _;have fr:=zc hb f;have hne:w.heap.size≠b:=fun e=>by have:=hlt f;omega
 refine⟨_,zb (za f0) (i:=2) rfl,?_⟩;refine cmo (ze6 (k:=1) (l:=x.loc) (v:=o) (m:=3) (d:=0) fr (by omega)) ?_;rintro e Y ⟨rfl,fY,gY,sY⟩;have f0Y:=(gY.block w.heap.size (hlt f0) (by simpa using hne)).trans f0;refine⟨_,zb (za f0Y) (i:=2) rfl,?_⟩;refine cmo (ze6 (k:=2) (l:=x.loc) (v:=v) (m:=3) (d:=d) fY (by show R.many+1<24;omega)) ?_;rintro e Z ⟨rfl,fZ,gZ,sZ⟩;have f0Z:=(gZ.block w.heap.size (hlt f0Y) (by simpa using hne)).trans f0Y;have gd:∀ Z:Wd,Z.grownBy Z.drew (some b):=fun Z=>⟨rfl,rfl,rfl,UW _,fun _ _ _=>rfl⟩;refine DrawE.ord [7] [0,1,2,3,4,5,6,7] (by kernel_rfl) ?_;refine⟨by omega,_,zfD (e:=R.many) (by omega),?_⟩;refine⟨R.many+1,rfl,by omega,?_⟩;refine zj zkU (hdr fZ) (o:=0+235+(R.many+1)*1) (v:=s32 (2^R.many)) rfl rfl (by rw [jz];omega) rfl fun V fV gV sV=>?_;rw [UR,UX,zjl _ (by omega)] at fV;have f0V:=(gV.block w.heap.size (hlt f0Z) (by simpa using hne)).trans (hdr f0Z);refine DrawE.ord [6] [0,1,2,3,4,5,6] (by kernel_rfl) ?_;refine⟨_,zb (za (hdr f0V)) (i:=1) rfl,?_⟩;refine⟨by omega,_,zfD (e:=R.many) (by omega),?_⟩;refine cmo (zlu (d:=x.dst) (v:=o) (s:=2^R.many) (hdr fV) hd) ?_;rintro e U ⟨rfl,fU,gU,sU⟩;exact⟨rfl,fU,zd (zf hb) (zd gY (zd gZ (zd (gd Z) (zd gV (zd (gd V) gU)))))⟩
theorem zmC (f:jq w b R) (hm:R.many<23) (hd:x.dst.toNat<8) (ha:x.ar=true->x.an.toNat<8):Calls PG 96 #[AtR b,zcc x,u8 v] w fun e w' =>
  e = .returned (.tuple #[])/\jq w' b (znF R x v)/\w.grownBy w' (some b):=by
 refine zI 21 [AtR b,zcc x,u8 v] Tryz.func96 ?_;have f0:=zz w (.cells (zG.enc x).toArray 41);have hb:Bw w (w.alloc (.cells (zG.enc x).toArray 41)):=zba w _;have fr:=zc hb f;refine⟨[.bool x.ar,u8 x.an],rfl,qu (o:=3) (n:=2) f0,hlt f0,?_⟩;refine cmo (za9 fr ha) ?_;rintro e Y ⟨rfl,hbY⟩;have f0Y:=zc hbY f0;have fY:=zc hbY fr;refine⟨zG.enc x,rfl,za f0Y,hlt f0Y,?_⟩;refine cmo (zk0 (x:=x) (o:=v) (v:=(qm x.ar x.an R).1) (d:=(qm x.ar x.an R).2) fY hm hd) ?_;rintro e Z ⟨rfl,fZ,gZ⟩;exact⟨rfl,fZ,zd (zf hb) (zd (zf hbY) gZ)⟩
theorem zkA (f:jq w b R) (hs:RunS R) (hm:R.many<23) (hd:x.dst.toNat<8) (ha:x.ar=true->x.an.toNat<8):Calls PG 97 #[AtR b,zcc x,u8 v] w fun e w' =>
  e = .returned (.tuple #[])/\jq w' b (ze4 R x v)/\w.grownBy w' (some b):=by
 refine zI 40 [AtR b,zcc x,u8 v] Tryz.func97 ?_;have f0:=zz w (.cells (zG.enc x).toArray 41);have hb:Bw w (w.alloc (.cells (zG.enc x).toArray 41)):=zba w _;have fr:=zc hb f;refine⟨[.bool x.ar,u8 x.an],rfl,qu (o:=3) (n:=2) f0,hlt f0,?_⟩;refine cmo (za9 fr ha) ?_;rintro e Y ⟨rfl,hbY⟩;have f0Y:=zc hbY f0;have fY:=zc hbY fr;refine⟨zG.enc x,rfl,za f0Y,hlt f0Y,?_⟩;refine⟨_,zqP _ _,?_⟩;refine cmo (zk0 (x:=x) (o:=v) (v:=v+(qm x.ar x.an R).1) (d:=(qm x.ar x.an R).2) fY hm hd) ?_;rintro e Z ⟨rfl,fZ,gZ⟩;obtain⟨S,hS⟩:=nm (zbz R x v (v+(qm x.ar x.an R).1) (qm x.ar x.an R).2);have sS:RunS S:=by rw [hS];exact hs.exch (by omega) (hs.val _ _)
 rw [<- hS] at fZ;have gd:∀ Z:Wd,Z.grownBy Z.drew (some b):=fun Z=>⟨rfl,rfl,rfl,UW _,fun _ _ _=>rfl⟩;refine DrawE.ord [16] [0,1,2,3,4,5,6,7,8,9,10,11,12,13,14,15,16] (by kernel_rfl) ?_;refine⟨R.many+1,rfl,by omega,?_⟩;refine⟨_,by rw [UX,UD];exact zb (za (hdr fZ)) (zjm S (i:=R.many+1) (by omega)),?_⟩;refine⟨R.many+1,rfl,by omega,?_⟩;refine⟨_,by rw [UX,UD];exact zb (za (hdr fZ)) (zij S (i:=R.many+1) (by omega)),?_⟩;refine⟨_,zeJ (sS.s _).1 (sS.s _).2.2,?_⟩;refine⟨R.many+1,rfl,by omega,?_⟩;refine zj zkU (hdr fZ) (o:=0+187+(R.many+1)*1) (v:=s32 (S.data (R.many+1)|||S.att (R.many+1))) rfl rfl (by rw [jz];omega) rfl fun V fV gV sV=>?_;rw [UR,UX,zd5 _ (by omega)] at fV;refine⟨rfl,?_,zd (zf hb) (zd (zf hbY) (zd gZ (zd (gd Z) gV)))⟩;rw [hS] at fV;exact fV
theorem zmF (f:jq w b R) (hs:RunS R) (hd:x.dst.toNat<8) (ha:x.ar=true->x.an.toNat<8) (hc:x.br=true->x.bn.toNat<8):Calls PG 95 #[AtR b,zcc x,u8 v] w fun e w' =>
  e = .returned (.tuple #[])/\jq w' b (zoh R x)/\w.grownBy w' (some b):=by
 refine je 47 [AtR b,zcc x,u8 v] (.s .p (.s .p (.s .p (.c .p .p)))) Tryz.func95 ?_;have f0:=zz w (.cells (zG.enc x).toArray 41);have hb:Bw w (w.alloc (.cells (zG.enc x).toArray 41)):=zba w _;have fr:=zc hb f;refine⟨[.bool x.ar,u8 x.an],rfl,qu (o:=3) (n:=2) f0,hlt f0,?_⟩;refine cmo (za9 fr ha) ?_;rintro e Y ⟨rfl,hbY⟩;have f0Y:=zc hbY f0;have fY:=zc hbY fr;refine⟨[.bool x.br,u8 x.bn],rfl,qu (o:=5) (n:=2) f0Y,hlt f0Y,?_⟩;refine cmo (za9 fY hc) ?_;rintro e Z ⟨rfl,hbZ⟩;have f0Z:=zc hbZ f0Y;have fZ:=zc hbZ fY;obtain⟨A,hA⟩:=nm (qm x.ar x.an R);obtain⟨C,hC⟩:=nm (qm x.br x.bn R);rw [<- hA,<- hC];refine⟨Unit,fun _=>⟨[(0,AtR b),(4,At0 w.heap.size),(6,u8 (zh1 x.fn A.1 C.1)),(7,s32 A.2),(9,s32 C.2)],[]⟩,fun _ X=>X=Z,?_,?_⟩
 ·refine⟨_,zb (za f0Z) (i:=7) rfl,?_⟩;refine biE (fun h=>?_) fun h=>?_
  ·have h:x.fn=1:=dT ((zat (x:=x.fn) (y:=1)).symm.trans h);refine⟨_,zqP _ _,?_⟩;exact⟨(),⟨.cons rfl (.cons rfl (.cons (by unfold zh1;rw [Gp h];rfl) (.cons rfl (.cons rfl .nil)))),rfl⟩,rfl⟩
  ·have h:¬ x.fn=1:=dF ((zat (x:=x.fn) (y:=1)).symm.trans h);refine biE (fun k=>?_) fun k=>?_
   ·have k:x.fn=2:=dT ((zat (x:=x.fn) (y:=2)).symm.trans k);refine⟨_,zsf _ _,?_⟩;exact⟨(),⟨.cons rfl (.cons rfl (.cons (by unfold zh1;rw [Gn h,Gp k];rfl) (.cons rfl (.cons rfl .nil)))),rfl⟩,rfl⟩
   ·have k:¬ x.fn=2:=dF ((zat (x:=x.fn) (y:=2)).symm.trans k);refine⟨_,zse _ _,?_⟩;exact⟨(),⟨.cons rfl (.cons rfl (.cons (by unfold zh1;rw [Gn h,Gn k];rfl) (.cons rfl (.cons rfl .nil)))),rfl⟩,rfl⟩
 rintro _ _ rfl;refine⟨_,zb (za f0Z) (i:=1) rfl,?_⟩;refine⟨_,zeJ (by rw [hA];exact hs.val _ _) (by rw [hC];exact hs.val _ _),?_⟩;refine cmo (zlu (d:=x.dst) (v:=zh1 x.fn A.1 C.1) (s:=A.2|||C.2) fZ hd) ?_;rintro e U ⟨rfl,fU,gU,sU⟩;refine⟨rfl,?_,zd (zf hb) (zd (zf hbY) (zd (zf hbZ) gU))⟩;rw [hA,hC] at fU;exact fU
theorem znO (f:jq w b R) (hs:RunS R) (hm:R.many<23) (hd:x.dst.toNat<8) (ha:x.ar=true->x.an.toNat<8) (hc:x.br=true->x.bn.toNat<8):Calls PG 98 #[AtR b,zcc x,u8 v] w fun e w' =>
  e = .returned (.tuple #[])/\jq w' b (zc0 R x v)/\w.grownBy w' (some b):=by
 refine zI 65 [AtR b,zcc x,u8 v] Tryz.func98 ?_;have f0:=zz w (.cells (zG.enc x).toArray 41);have hb:Bw w (w.alloc (.cells (zG.enc x).toArray 41)):=zba w _;have fr:=zc hb f;refine⟨[.bool x.ar,u8 x.an],rfl,qu (o:=3) (n:=2) f0,hlt f0,?_⟩;refine cmo (za9 fr ha) ?_;rintro e Y ⟨rfl,hbY⟩;have f0Y:=zc hbY f0;have fY:=zc hbY fr;refine⟨[.bool x.br,u8 x.bn],rfl,qu (o:=5) (n:=2) f0Y,hlt f0Y,?_⟩;refine cmo (za9 fY hc) ?_;rintro e Z ⟨rfl,hbZ⟩;have f0Z:=zc hbZ f0Y;have fZ:=zc hbZ fY;have gd:∀ Z:Wd,Z.grownBy Z.drew (some b):=fun Z=>⟨rfl,rfl,rfl,UW _,fun _ _ _=>rfl⟩;have gZ:w.grownBy Z (some b):=zd (zf hb) (zd (zf hbY) (zf hbZ));have hne:w.heap.size≠b:=fun e=>by have:=hlt f;omega
 obtain⟨A,hA⟩:=nm (qm x.ar x.an R);obtain⟨C,hC⟩:=nm (qm x.br x.bn R);have hA2:A.2<2^32:=by rw [hA];exact hs.val _ _
 have hC2:C.2<2^32:=by rw [hC];exact hs.val _ _
 rw [<- hA,<- hC];refine biE (fun h=>?_) fun h=>?_
 ·have h:¬ v=A.1:=fun e=>by rw [e] at h;have h:(!decide (((A.1.toNat:Nat):Int)=((A.1.toNat:Nat):Int)))=true:=h;simp at h
  refine⟨_,zb (za f0Z) (i:=2) rfl,?_⟩;refine cmo (ze6 (k:=1) (l:=x.loc) (v:=v) (m:=3) (d:=0) fZ (by omega)) ?_;rintro e U ⟨rfl,fU,gU,sU⟩;have f0U:=(gU.block w.heap.size (hlt f0Z) (by simpa using hne)).trans f0Z;refine DrawE.ord [6] [0,1,2,3,4,5,6] (by kernel_rfl) ?_;refine⟨_,zb (za (hdr f0U)) (i:=1) rfl,?_⟩;refine⟨by omega,_,zfD (e:=R.many) (by omega),?_⟩;refine cmo (zlu (d:=x.dst) (v:=v) (s:=2^R.many) (hdr fU) hd) ?_;rintro e V ⟨rfl,fV,gV,sV⟩;refine⟨rfl,?_,zd gZ (zd gU (zd (gd U) gV))⟩;unfold zc0;rw [Gn (by rw [<- hA];exact h)];exact fV
 ·have h:v=A.1:=by
   have h:(!decide (((v.toNat:Nat):Int)=((A.1.toNat:Nat):Int)))=false:=h;rw [zat,Bool.not_eq_false',dE] at h;exact h
  refine⟨zG.enc x,rfl,za f0Z,hlt f0Z,?_⟩;refine cmo (zk0 (x:=x) (o:=v) (v:=C.1) (d:=C.2) fZ hm hd) ?_;rintro e U ⟨rfl,fU,gU⟩;obtain⟨S,hS⟩:=nm (zbz R x v C.1 C.2);have sS:RunS S:=by rw [hS];exact hs.exch (by omega) hC2
  rw [<- hS] at fU;refine DrawE.ord [18] [0,1,2,3,4,5,6,7,8,9,10,11,12,13,14,15,16,17,18] (by kernel_rfl) ?_;refine⟨R.many+1,rfl,by omega,?_⟩;refine⟨_,by rw [UX,UD];exact zb (za (hdr fU)) (zjn S (i:=R.many+1) (by omega)),?_⟩;refine⟨R.many+1,rfl,by omega,?_⟩;refine⟨_,by rw [UX,UD];exact zb (za (hdr fU)) (zij S (i:=R.many+1) (by omega)),?_⟩;refine⟨_,zeJ (sS.s _).2.2 hA2,?_⟩;refine⟨_,zeJ (sS.s _).2.1 (zjC (sS.s _).2.2 hA2),?_⟩;refine⟨R.many+1,rfl,by omega,?_⟩;refine zj zkU (hdr fU) (o:=0+211+(R.many+1)*1) (v:=s32 (S.ctrl (R.many+1)|||(S.att (R.many+1)|||A.2))) rfl rfl (by rw [jz];omega) rfl fun V fV gV sV=>?_;rw [UR,UX,zd6 _ (by omega)] at fV;refine⟨rfl,?_,zd gZ (zd gU (zd (gd U) gV))⟩;unfold zc0;rw [Gp (by rw [<- hA];exact h),<- hA,<- hC,<- hS];exact fV
theorem zmD (f:jq w b R) (hs:RunS R) (hp:R.pc<=1000) (ha:x.ar=true->x.an.toNat<8) (hc:x.br=true->x.bn.toNat<8):Calls PG 100 #[AtR b,zcc x,u8 v] w fun e w' =>
  e = .returned (.tuple #[])/\jq w' b (zbm R x)/\w.grownBy w' (some b):=by
 refine je 61 [AtR b,zcc x,u8 v] (.s .p (.s .p (.c .p (.c .p (.s .p (.c .p .p)))))) Tryz.func100 ?_;have f0:=zz w (.cells (zG.enc x).toArray 41);have hb:Bw w (w.alloc (.cells (zG.enc x).toArray 41)):=zba w _;have fr:=zc hb f;have hne:w.heap.size≠b:=fun e=>by have:=hlt f;omega
 refine⟨[.bool x.ar,u8 x.an],rfl,qu (o:=3) (n:=2) f0,hlt f0,?_⟩;refine cmo (za9 fr ha) ?_;rintro e Y ⟨rfl,hbY⟩;have f0Y:=zc hbY f0;have fY:=zc hbY fr;have gd:∀ Z:Wd,Z.grownBy Z.drew (some b):=fun Z=>⟨rfl,rfl,rfl,UW _,fun _ _ _=>rfl⟩;obtain⟨A,hA⟩:=nm (qm x.ar x.an R);obtain⟨C,hC⟩:=nm (qm x.br x.bn R);have hA2:A.2<2^32:=by rw [hA];exact hs.val _ _
 have hC2:C.2<2^32:=by rw [hC];exact hs.val _ _
 refine⟨Unit,fun _=>⟨[(0,AtR b),(4,At0 w.heap.size),(6,u8 A.1),(7,s32 A.2),(8,u8 C.1),(9,s32 C.2)],[]⟩,fun _ X=>Bw Y X,?_,?_⟩
 ·refine⟨[.bool x.br,u8 x.bn],rfl,qu (o:=5) (n:=2) f0Y,hlt f0Y,?_⟩;refine cmo (za9 fY hc) ?_;rintro e Z ⟨rfl,hbZ⟩;rw [<- hA,<- hC];exact⟨(),(cvE rfl rfl),hbZ⟩
 rintro _ Z hbZ;have f0Z:=zc hbZ f0Y;have fZ:=zc hbZ fY;obtain⟨S,hS⟩:∃ S:RunD,S={ R with ctl:=R.ctl|||(A.2|||C.2) }:=⟨_,rfl⟩;have hpc:S.pc=R.pc:=by rw [hS]
 refine⟨Unit,fun _=>⟨[(0,AtR b),(4,At0 w.heap.size),(6,u8 A.1),(8,u8 C.1)],[]⟩,fun _ X=>jq X b S/\X.heap[w.heap.size]?=some (.cells (zG.enc x).toArray 41 (0,0))/\w.grownBy X (some b),?_,?_⟩
 ·refine⟨_,zb (za fZ) (i:=17) (zlw R),?_⟩;refine⟨_,zeJ hA2 hC2,?_⟩;refine⟨_,zeJ hs.c (zjC hA2 hC2),?_⟩;refine zj zkU fZ (o:=0+17) (v:=s32 (R.ctl|||(A.2|||C.2))) rfl rfl (by rw [jz];decide) rfl fun V fV gV sV=>?_;rw [UR,zjk] at fV;exact⟨(),(cvE rfl rfl),by rw [hS];exact fV,(gV.block w.heap.size (hlt f0Z) (by simpa using hne)).trans f0Z,zd (zf hb) (zd (zf hbY) (zd (zf hbZ) gV))⟩
 clear f0 fr f0Y fY f0Z fZ hb hbY hbZ;rintro _ V ⟨fV,f0V,gV'⟩;refine⟨Unit,fun _=>⟨[(0,AtR b),(4,At0 w.heap.size),(10,.bool (zjd x.fn A.1 C.1))],[]⟩,fun _ X=>X=V,?_,?_⟩
 ·refine⟨_,zb (za f0V) (i:=7) rfl,?_⟩;refine biE (fun h=>?_) fun h=>?_
  ·have h:x.fn=4:=dT ((zat (x:=x.fn) (y:=4)).symm.trans h);exact⟨(),⟨.cons rfl (.cons rfl (.cons (by unfold zjd;rw [Gp h,<- zat];rfl) .nil)),rfl⟩,rfl⟩
  ·have h:¬ x.fn=4:=dF ((zat (x:=x.fn) (y:=4)).symm.trans h);refine biE (fun k=>?_) fun k=>?_
   ·have k:x.fn=5:=dT ((zat (x:=x.fn) (y:=5)).symm.trans k);exact⟨(),⟨.cons rfl (.cons rfl (.cons (by unfold zjd;rw [Gn h,Gp k,<- zat];rfl) .nil)),rfl⟩,rfl⟩
   ·have k:¬ x.fn=5:=dF ((zat (x:=x.fn) (y:=5)).symm.trans k);exact⟨(),⟨.cons rfl (.cons rfl (.cons (by unfold zjd;rw [Gn h,Gn k,<- zpP];rfl) .nil)),rfl⟩,rfl⟩
 rintro _ _ rfl;refine biE (fun h=>?_) fun h=>?_
 ·refine DrawE.ord [10] [0,1,2,3,4,5,6,7,8,9,10] (by kernel_rfl) ?_;refine⟨_,zb (za (hdr fV)) (i:=0) rfl,?_⟩;refine⟨_,zb (za (hdr f0V)) (i:=9) rfl,?_⟩;have hk:=x.skip.toNat_lt;refine⟨_,ze (by omega),?_⟩;refine⟨((S.pc+x.skip.toNat:Nat):Int),(ze (by omega)).trans rfl,?_⟩;refine zj k3 (hdr fV) (o:=0+0) (v:=i64 (S.pc+x.skip.toNat:Nat)) rfl rfl (by rw [jz];decide) rfl fun U fU gU sU=>?_;rw [UR,zf7] at fU;refine⟨rfl,?_,zd gV' (zd (gd _) gU)⟩;unfold zbm;rw [<- hA,<- hC,Gp h];rw [hS] at fU;exact fU
 ·refine⟨rfl,?_,gV'⟩;unfold zbm;rw [<- hA,<- hC,Gn (by rw [h];decide)];rw [hS] at fV;exact fV
end
def ExG (x:InsD):Prop :=
 (x.op=1/\x.dst.toNat<8)\/(x.op=2/\(x.ar=true->x.an.toNat<8))\/(x.op=3/\x.dst.toNat<8/\(x.ar=true->x.an.toNat<8)/\(x.br=true->x.bn.toNat<8))\/(x.op=4/\x.dst.toNat<8/\(x.ar=true->x.an.toNat<8))\/(x.op=5/\x.dst.toNat<8/\(x.ar=true->x.an.toNat<8))\/(x.op=6/\x.dst.toNat<8/\(x.ar=true->x.an.toNat<8)/\(x.br=true->x.bn.toNat<8))\/x.op=7\/(x.op=8/\(x.ar=true->x.an.toNat<8)/\(x.br=true->x.bn.toNat<8))
theorem zS {x:InsD} {R:RunD} {v:UInt8}:(x.op=1->zdT R x v=zon R x v)/\(x.op=2->zdT R x v=zkt R x)/\(x.op=3->zdT R x v=zoh R x)/\(x.op=4->zdT R x v=znF R x v)/\(x.op=5->zdT R x v=ze4 R x v)/\(x.op=6->zdT R x v=zc0 R x v)/\(x.op=7->zdT R x v=zkZ R x)/\(x.op=8->zdT R x v=zbm R x):=by
 unfold zdT;refine⟨fun h=>?_,fun h=>?_,fun h=>?_,fun h=>?_,fun h=>?_,fun h=>?_,fun h=>?_,fun h=>?_⟩ <;> rw [h] <;> rfl
theorem zls {R:RunD} {x:InsD}:(zbm R x).pc<=R.pc+255/\(zbm R x).many=R.many/\(zbm R x).pc<=R.pc+x.skip.toNat:=by
 have:=x.skip.toNat_lt;unfold zbm;dsimp only
 split
 ·exact⟨by dsimp only;omega,rfl,UW _⟩
 ·exact⟨by dsimp only;omega,rfl,by dsimp only;omega⟩
theorem zo1 {R:RunD} {x:InsD} {v:UInt8}:(zc0 R x v).pc=R.pc/\R.many+1<=(zc0 R x v).many/\(zc0 R x v).many<=R.many+2:=by
 unfold zc0
 split
 ·exact⟨rfl,Nat.le_succ _,UW _⟩
 ·exact⟨rfl,UW _,Nat.le_succ _⟩
section
variable {R:RunD} {b:Nat} {w:Wd}
theorem zdQ {x:InsD} {v:UInt8} (f:jq w b R) (hs:RunS R) (hm:R.many<23) (hp:R.pc<=1000) (hx:ExG x):Calls PG 39 #[AtR b,zcc x,u8 v] w fun e w' =>
  e = .returned (.tuple #[])/\jq w' b (zU R x v)/\w.grownBy w' (some b):=by
 refine zI 21 [AtR b,zcc x,u8 v] Tryz.func39 ?_;have f0:=zz w (.cells (zG.enc x).toArray 41);obtain⟨W1,hW1⟩:=nm ((w.alloc (.cells (zG.enc x).toArray 41)).drew);have hb:Bw w W1:=by rw [hW1];exact ((zba w _)).drew
 have fr:jq W1 b R:=zc hb f;have f0:W1.heap[w.heap.size]?=some (.cells (zG.enc x).toArray 41 (0,0)):=by rw [hW1];exact f0
 have hW1':(w.alloc (.cells (Value.agg (zG.enc x).toArray).cells 41)).drew=W1:=hW1.symm;refine DrawE.ord [7] [1,2,4,5,6,0,3,7] (by kernel_rfl) ?_;rw [hW1'];refine⟨_,zb (za f0) (i:=0) rfl,zG.enc x,rfl,za f0,hlt f0,cmo zm3 ?_⟩;rintro e Y ⟨rfl,hbY⟩;refine⟨hbY,?_⟩;have fY:=zc hbY fr;have gY:w.grownBy Y (some b):=zd (zf hb) (zf hbY);have fin:∀ {S:RunD} {Z:Wd},jq Z b S->Y.grownBy Z (some b)->S.pc<=2000->zdT R x v=S->∃ u,Z.cell? ⟨b,0+0,none⟩=some u/\zqD PG .add 3 (.tmp 17) (.const (i64 1)) u (i64 1) (fun v18=>SatR ((storeVar 3 ⟨b,0+0,none⟩ v18).run PG Z) fun _ w'=>(Ending.returned (.tuple #[])=Ending.returned (.tuple #[]))/\jq w' b (zU R x v)/\w.grownBy w' (some b)):=by
  intro S Z fZ gZ hpc he;have he:zU R x v={ S with pc:=S.pc+1 }:=by unfold zU;rw [he]
  refine⟨_,zb (za fZ) (i:=0) rfl,((S.pc+1:Nat):Int),(ze (by show _<=((S.pc:Nat):Int)+1/\((S.pc:Nat):Int)+1<=_;omega)).trans rfl,zj k3 fZ (o:=0+0) (v:=i64 (S.pc+1:Nat)) rfl rfl (by rw [jz];decide) rfl fun V fV gV sV=>?_⟩;rw [UR,zf7] at fV;rw [he];exact⟨rfl,fV,zd gY (zd gZ gV)⟩
 rcases hx with ⟨h1,h2⟩ | ⟨h1,h2⟩ | ⟨h1,h2,h3,h4⟩ | ⟨h1,h2,h3⟩ | ⟨h1,h2,h3⟩ | ⟨h1,h2,h3,h4⟩ | h1 | ⟨h1,h2,h3⟩
 ·refine⟨1,by rw [h1];rfl,by decide,?_⟩;refine zaa (v:=fnV 93) rfl (cmo (zmG fY (by omega) h2) ?_);rintro e Z ⟨rfl,fZ,gZ⟩;exact fin fZ gZ (show R.pc<=2000 by omega) (zS.1 h1)
 ·refine⟨2,by rw [h1];rfl,by decide,?_⟩;refine zaa (v:=fnV 94) rfl (cmo (zkz fY (by omega) h2) ?_);rintro e Z ⟨rfl,fZ,gZ⟩;exact fin fZ gZ (show R.pc<=2000 by omega) (zS.2.1 h1)
 ·refine⟨3,by rw [h1];rfl,by decide,?_⟩;refine zaa (v:=fnV 95) rfl (cmo (zmF fY hs h2 h3 h4) ?_);rintro e Z ⟨rfl,fZ,gZ⟩;exact fin fZ gZ (show R.pc<=2000 by omega) (zS.2.2.1 h1)
 ·refine⟨4,by rw [h1];rfl,by decide,?_⟩;refine zaa (v:=fnV 96) rfl (cmo (zmC fY hm h2 h3) ?_);rintro e Z ⟨rfl,fZ,gZ⟩;exact fin fZ gZ (show R.pc<=2000 by omega) (zS.2.2.2.1 h1)
 ·refine⟨5,by rw [h1];rfl,by decide,?_⟩;refine zaa (v:=fnV 97) rfl (cmo (zkA fY hs hm h2 h3) ?_);rintro e Z ⟨rfl,fZ,gZ⟩;exact fin fZ gZ (show R.pc<=2000 by omega) (zS.2.2.2.2.1 h1)
 ·refine⟨6,by rw [h1];rfl,by decide,?_⟩;refine zaa (v:=fnV 98) rfl (cmo (znO fY hs hm h2 h3 h4) ?_);rintro e Z ⟨rfl,fZ,gZ⟩;exact fin fZ gZ (by rw [zo1.1];omega) (zS.2.2.2.2.2.1 h1)
 ·refine⟨7,by rw [h1];rfl,by decide,?_⟩;refine zaa (v:=fnV 99) rfl (cmo (zkB fY (by omega)) ?_);rintro e Z ⟨rfl,fZ,gZ⟩;exact fin fZ gZ (show R.pc<=2000 by omega) (zS.2.2.2.2.2.2.1 h1)
 ·refine⟨8,by rw [h1];rfl,by decide,?_⟩;refine zaa (v:=fnV 100) rfl (cmo (zmD fY hs hp h2 h3) ?_);rintro e Z ⟨rfl,fZ,gZ⟩;exact fin fZ gZ (by have:=(zls (R:=R) (x:=x)).1;omega) (zS.2.2.2.2.2.2.2 h1)
end
theorem zmE {R:RunD} {x:InsD} {v:UInt8} (hs:RunS R) (hm:R.many<31) (hx:ExG x):RunS (zU R x v):=by
 have fin:∀ S:RunD,RunS S->zdT R x v=S->RunS (zU R x v):=fun S h e=>by
  unfold zU;rw [e];exact⟨h.d,h.c,h.s⟩
 have ex:∀ {o a:UInt8} {d:Nat},d<2^32->RunS (zbz R x o a d):=fun hd=>hs.exch (by omega) hd;rcases hx with ⟨h1,-⟩ | ⟨h1,-⟩ | ⟨h1,-⟩ | ⟨h1,-⟩ | ⟨h1,-⟩ | ⟨h1,-⟩ | h1 | ⟨h1,-⟩
 ·exact fin _ ((hs.emit (by decide)).set (zlG (by omega))) (zS.1 h1)
 ·exact fin _ (hs.emit (hs.val _ _)) (zS.2.1 h1)
 ·exact fin _ (hs.set (zjC (hs.val _ _) (hs.val _ _))) (zS.2.2.1 h1)
 ·exact fin _ (ex (hs.val _ _)) (zS.2.2.2.1 h1)
 ·refine fin (ze4 R x v) ?_ (zS.2.2.2.2.1 h1);have h:=ex (o:=v) (a:=v+(qm x.ar x.an R).1) (hs.val x.ar x.an);exact⟨h.d,h.c,fun i=>⟨zeK (fun i=>(h.s i).1) (zjC (h.s _).1 (h.s _).2.2) i,(h.s i).2⟩⟩
 ·refine fin (zc0 R x v) ?_ (zS.2.2.2.2.2.1 h1);unfold zc0
  split
  ·have h:=ex (o:=v) (a:=(qm x.br x.bn R).1) (hs.val x.br x.bn);exact⟨h.d,h.c,fun i=>⟨(h.s i).1,zeK (fun i=>(h.s i).2.1) (zjC (h.s _).2.1 (zjC (h.s _).2.2 (hs.val _ _))) i,(h.s i).2.2⟩⟩
  ·exact (hs.emit (by decide)).set (zlG (by omega))
 ·exact fin _ (hs.emit (by decide)) (zS.2.2.2.2.2.2.1 h1)
 ·refine fin (zbm R x) ?_ (zS.2.2.2.2.2.2.2 h1);have h:RunS { R with ctl:=R.ctl|||((qm x.ar x.an R).2|||(qm x.br x.bn R).2) }:=⟨hs.d,zjC hs.c (zjC (hs.val _ _) (hs.val _ _)),hs.s⟩;unfold zbm;dsimp only
  split
  ·exact⟨h.d,h.c,h.s⟩
  ·exact h
theorem zrc:RunS zdr:=⟨fun _=>(by decide:0<2^32),by decide,fun _=>⟨(by decide:0<2^32),(by decide:0<2^32),(by decide:0<2^32)⟩⟩
theorem zhr {α:Type} {E:Enc α} {w X:Wd} {q:OA} {l:List α} {b:Nat} (h:SlR E w q l) (hq:∀ a,q=some a->a.block≠b) (g:w.grownBy X (some b)):SlR E X q l:=by
 rcases h with h | ⟨b',o,h1,h2,h3⟩
 ·exact .inl h
 ·refine .inr ⟨b',o,h1,nL h2 g.size,fun i hi=>jo (g.block b' h2 (fun e=>hq _ h1 (by cases e;rfl))) (h3 i hi)⟩
theorem zow {l:List InsD} {R:RunD} (h:l[R.pc]?=none):∀ n,goR l n R=R
 | 0=>rfl
 | n+1=>by unfold goR;rw [h]
theorem zp4 {l:List InsD} {R:RunD} {x:InsD} (h:l[R.pc]?=some x) (hr:ju x=true):∀ n,goR l n R=R
 | 0=>rfl
 | n+1=>by unfold goR;rw [h];simp only [hr,Gm]
theorem zp3 {l:List InsD} {R:RunD} {x:InsD} (h:l[R.pc]?=some x) (hr:ju x=false) (n:Nat):goR l (n+1) R=goR l n (zU R x 0):=by
 show (match l[R.pc]? with | none=>R | some x=>if ju x then R else goR l n (zU R x 0))=_;rw [h];simp only [hr,Ku,Gk]
def ThG (l:List InsD):Prop:=l.length<=12/\∀ i x,l[i]?=some x->ExG x/\(x.op=8->x.skip.toNat<=l.length-1-i)
theorem ziG {x:InsD} {k n:Nat} (h:zha x k n=true):ExG x/\(x.op=8->x.skip.toNat<=n)/\(x.op=1\/x.op=2\/x.op=4\/x.op=5\/x.op=6->x.loc.toNat<k):=by
 unfold zha qI at h;simp only [UA,List.all_nil,id_eq,Bool.and_true,bAT,dE,QH] at h;obtain⟨⟨h1,h8⟩,-,hd,hl,⟨ha,hb⟩,-,-,hs⟩:=h;have arg:∀ {r:Bool} {n:UInt8},ziY r n=true->r=true->n.toNat<8:=fun {r n} h hr=>by
  subst hr;unfold ziY at h;simpa using h
 have ha:=arg ha;have hb:=arg hb;have key:∀ i,1<=i->i<=8->UInt8.ofNat i=1\/UInt8.ofNat i=2\/UInt8.ofNat i=3\/UInt8.ofNat i=4\/UInt8.ofNat i=5\/UInt8.ofNat i=6\/UInt8.ofNat i=7\/UInt8.ofNat i=8:=by
  intro i a b;have:i=1\/i=2\/i=3\/i=4\/i=5\/i=6\/i=7\/i=8:=by omega
  rcases this with e | e | e | e | e | e | e | e <;> subst e <;> decide
 have hop:=key x.op.toNat h1 h8;rw [UInt8.ofNat_toNat] at hop;refine⟨?_,fun e=>?_,fun e=>?_⟩
 ·unfold ExG;rcases hop with e | e | e | e | e | e | e | e
  ·exact .inl ⟨e,hd⟩
  ·exact .inr (.inl ⟨e,ha⟩)
  ·exact .inr (.inr (.inl ⟨e,hd,ha,hb⟩))
  ·exact .inr (.inr (.inr (.inl ⟨e,hd,ha⟩)))
  ·exact .inr (.inr (.inr (.inr (.inl ⟨e,hd,ha⟩))))
  ·exact .inr (.inr (.inr (.inr (.inr (.inl ⟨e,hd,ha,hb⟩)))))
  ·exact .inr (.inr (.inr (.inr (.inr (.inr (.inl e))))))
  ·exact .inr (.inr (.inr (.inr (.inr (.inr (.inr ⟨e,ha,hb⟩))))))
 ·rw [e] at hs;rcases hs with hs | hs
  ·exact Gq hs (by decide)
  ·exact hs.2
 ·rcases hl with hl | hl
  ·rcases e with e | e | e | e | e <;> rw [e] at hl <;> exact Gq hl (by decide)
  ·exact hl
theorem zeL {l:List InsD} {k:Nat} (h:qa l k=true):ThG l:=by
 unfold qa at h;rw [bAT,dE,Qk] at h;refine⟨h.1,fun i x hi=>?_⟩;have hil:i<l.length:=(Js.1 hi).1;have:=h.2 i (Uo.2 hil);rw [hi] at this;exact⟨(ziG this).1,(ziG this).2.1⟩
structure RunOk (l:List InsD) (R:RunD):Prop where
 m:R.many<=2*R.pc
 p:R.pc<=l.length
 s:RunS R
theorem zd7 (l:List InsD):RunOk l zdr:=⟨UW _,UZ _,zrc⟩
theorem zaY {l:List InsD} {S:RunD} {x:InsD} {v:UInt8} (ht:ThG l) (h:RunOk l S) (hx:l[S.pc]?=some x):RunOk l (zU S x v)/\S.pc+1<=(zU S x v).pc:=by
 obtain⟨hx1,hx8⟩:=ht.2 _ _ hx;have hpl:S.pc<l.length:=(Js.1 hx).1;have hm:=h.m;have h12:=ht.1;have hs:=zmE (v:=v) h.s (by omega) hx1;have fin:∀ T:RunD,zdT S x v=T->T.many<=2*T.pc+2->S.pc<=T.pc->T.pc+1<=l.length->RunOk l (zU S x v)/\S.pc+1<=(zU S x v).pc:=fun T e h1 h2 h3=>by
  have e2:zU S x v={ T with pc:=T.pc+1 }:=by unfold zU;rw [e]
  refine⟨⟨?_,?_,hs⟩,?_⟩
  ·rw [e2];dsimp only;omega
  ·rw [e2];exact h3
  ·rw [e2];dsimp only;omega
 rcases hx1 with ⟨e,-⟩ | ⟨e,-⟩ | ⟨e,-⟩ | ⟨e,-⟩ | ⟨e,-⟩ | ⟨e,-⟩ | e | ⟨e,-⟩
 ·exact fin _ (zS.1 e) (show S.many+1<=2*S.pc+2 by omega) (UW _) hpl
 ·exact fin _ (zS.2.1 e) (show S.many+1<=2*S.pc+2 by omega) (UW _) hpl
 ·exact fin _ (zS.2.2.1 e) (show S.many<=2*S.pc+2 by omega) (UW _) hpl
 ·exact fin _ (zS.2.2.2.1 e) (show S.many+1+1<=2*S.pc+2 by omega) (UW _) hpl
 ·exact fin _ (zS.2.2.2.2.1 e) (show S.many+1+1<=2*S.pc+2 by omega) (UW _) hpl
 ·obtain⟨c1,c2,c3⟩:=zo1 (R:=S) (x:=x) (v:=v);exact fin _ (zS.2.2.2.2.2.1 e) (by omega) (by omega) (by omega)
 ·exact fin _ (zS.2.2.2.2.2.2.1 e) (show S.many+1<=2*S.pc+2 by omega) (UW _) hpl
 ·obtain⟨c1,c2,c3⟩:=zls (R:=S) (x:=x);have h8:=hx8 e;have hge:S.pc<=(zbm S x).pc:=by
   unfold zbm;dsimp only
   split
   ·exact Qz _ _
   ·exact UW _
  exact fin _ (zS.2.2.2.2.2.2.2 e) (by omega) hge (by omega)
theorem zmI {x:InsD} (hx:ExG x):((x.op=1\/x.op=4\/x.op=5\/x.op=6)/\ju x=true)\/((x.op≠1/\x.op≠4/\x.op≠5/\x.op≠6)/\ju x=false):=by
 by_cases h:x.op=1\/x.op=4\/x.op=5\/x.op=6
 ·refine .inl ⟨h,?_⟩;unfold ju;rcases h with e | e | e | e <;> rw [e] <;> rfl
 ·have h1:x.op≠1:=fun e=>h (.inl e);have h4:x.op≠4:=fun e=>h (.inr (.inl e));have h5:x.op≠5:=fun e=>h (.inr (.inr (.inl e)));have h6:x.op≠6:=fun e=>h (.inr (.inr (.inr e)));refine .inr ⟨⟨h1,h4,h5,h6⟩,?_⟩;unfold ju;rw [Uh h1,Uh h4,Uh h5,Uh h6];rfl
section
variable {R:RunD} {b:Nat} {w:Wd} {l:List InsD} {q:OA} {cap:Nat}
theorem zdH (f:jq w b R) (hl:SlR zG w q l) (hq:l≠[]->∀ a,q=some a->a.block≠b) (ht:ThG l) (hR:RunOk l R) :
  Calls PG 38 #[AtR b,.slice q l.length cap] w fun e w'=>e = .returned (.bool (l[(goR l l.length R).pc]?).isSome)/\jq w' b (goR l l.length R)/\w.grownBy w' (some b)/\RunOk l (goR l l.length R)/\R.pc<=(goR l l.length R).pc:=by
 refine zI 34 [AtR b,.slice q l.length cap] Tryz.func38 ?_;have h12:=ht.1;refine⟨RunD×Nat,fun s=>⟨[(0,AtR b),(1,.slice q l.length cap)],[]⟩,
  fun s X=>(goR l l.length R=goR l s.2 s.1/\l.length<=s.2+s.1.pc/\RunOk l s.1/\R.pc<=s.1.pc)/\jq X b s.1/\w.grownBy X (some b),fun s=>l.length-s.1.pc,(R,l.length),
  (cvE rfl rfl),⟨⟨rfl,by omega,hR,UW _⟩,f,z3 w _⟩,?_⟩
 rintro⟨S,n⟩ X ⟨⟨he,hn,hS,hpp⟩,fX,gX⟩;dsimp only at he hn hS hpp fX ⊢;refine⟨_,zb (za fX) (i:=0) rfl,biE (fun hc=>?_) fun hc=>?_⟩
 ·have hc:(S.pc:Int)<(l.length:Int):=dT hc;have hi:S.pc<l.length:=by omega
  have hm:=hS.m;obtain⟨n,rfl⟩:∃ n',n=n'+1:=⟨n-1,by omega⟩;obtain⟨bq,oq,rfl,hlq,hat⟩:=(zhr hl (hq (List.ne_nil_of_length_pos (by omega))) gX).at hi;have hg:l[S.pc]?=some l[S.pc]:=gE hi;have hxi:=(ht.2 _ _ hg).1;refine⟨_,zb (za fX) (i:=0) rfl,S.pc,rfl,hi,_,zb (hat S.pc hi) (i:=0) rfl,?_⟩;have no:∀ k:UInt8,l[S.pc].op≠k->decide (((l[S.pc].op).toNat:Int)=(k.toNat:Int))=false:=fun k hk=>Uh fun e=>hk (jj.1 e);rcases zmI hxi with ⟨ho,hr⟩ | ⟨⟨o1,o4,o5,o6⟩,hr⟩
  ·have e1:goR l l.length R=S:=he.trans (zp4 hg hr _);have fin:∀ {u:Bool},u=true->(Ending.returned (.bool u)=Ending.returned (.bool (l[(goR l l.length R).pc]?).isSome)/\jq X b (goR l l.length R)/\w.grownBy X (some b)/\RunOk l (goR l l.length R)/\R.pc<=(goR l l.length R).pc):=fun hu=>by
    rw [e1,hg,hu];exact⟨rfl,fX,gX,hS,hpp⟩
   rcases ho with ho | ho | ho | ho
   ·exact brE (by rw [ho];rfl) (brE (by rw [ho];rfl) (fin rfl))
   ·exact brN (no 1 (by rw [ho];decide)) (brE (by rw [ho];rfl) (brE (by rw [ho];rfl) (fin rfl)))
   ·exact brN (no 1 (by rw [ho];decide)) (brN (no 4 (by rw [ho];decide)) (brE (by rw [ho];rfl) (brE (by rw [ho];rfl) (fin rfl))))
   ·exact brN (no 1 (by rw [ho];decide)) (brN (no 4 (by rw [ho];decide)) (brN (no 5 (by rw [ho];decide)) (brE (by rw [ho];rfl) (fin rfl))))
  ·refine brN (no 1 o1) (brN (no 4 o4) (brN (no 5 o5) (brN (no 6 o6) ⟨_,zb (za fX) (i:=0) rfl,S.pc,rfl,hi,zG.enc l[S.pc],rfl,hat S.pc hi,hlq,cmo (zdQ (v:=0) fX hS.s (by omega) (by omega) hxi) ?_⟩)));rintro e Y ⟨rfl,fY,gY⟩;obtain⟨x1,x2⟩:=zaY (v:=0) ht hS hg;exact⟨(zU S l[S.pc] 0,n),(cvE rfl rfl),⟨⟨he.trans (zp3 hg hr n),by dsimp only;omega,x1,by dsimp only;omega⟩,fY,zd gX gY⟩,by dsimp only;omega⟩
 ·have hc:¬ (S.pc:Int)<(l.length:Int):=dF hc;have hg:l[S.pc]?=none:=JK (by omega);have e1:goR l l.length R=S:=he.trans (zow hg _);rw [e1,hg];exact⟨rfl,fX,gX,hS,hpp⟩
end
theorem ze2 {l:List InsD} (ht:ThG l):∀ (n:Nat) (S:RunD),RunOk l S->RunOk l (goR l n S)
 | 0,S,h=>h
 | n+1,S,h=>by
  show RunOk l (match l[S.pc]? with | none=>S | some x=>if ju x then S else goR l n (zU S x 0))
  cases hg:l[S.pc]? with
  | none=>exact h
  | some x =>
   dsimp only
   split
   ·exact h
   ·exact ze2 ht n _ (zaY ht h hg).1
theorem zf0 {l:List InsD} (ht:ThG l) (dom:List UInt8):∀ (n:Nat) (S:RunD),RunOk l S->∀ R∈zW l dom n S,RunOk l R
 | 0,S,h,R,hR=>by
  have hR:R∈[goR l l.length S]:=hR;rw [KB] at hR;rw [hR];exact ze2 ht _ _ h
 | n+1,S,h,R,hR=>by
  have hT:=ze2 ht l.length S h;have hR:R∈(match l[(goR l l.length S).pc]? with | none=>[goR l l.length S] | some x=>dom.flatMap fun v=>zW l dom n (zU (goR l l.length S) x v)):=hR
  cases hg:l[(goR l l.length S).pc]? with
  | none =>
   rw [hg] at hR;have hR:=KB.1 hR;rw [hR];exact hT
  | some x =>
   rw [hg] at hR;obtain⟨v,-,hv⟩:=List.mem_flatMap.1 hR;exact zf0 ht dom n _ (zaY ht hT hg).1 R hv
theorem zoM {l:List InsD} (ht:ThG l) (dom:List UInt8):∀ R∈z8 l dom,RunOk l R:=zf0 ht dom _ _ (zd7 l)
theorem zfP {l:List InsD} (ht:ThG l) (dom:List UInt8):∀ R∈z8 l dom,R.many<=24/\∀ i,R.data i<2^32/\R.ctrl i<2^32/\R.att i<2^32:=fun R hR=>by
 have h:=zoM ht dom R hR;have h1:=h.m;have h2:=h.p;have h3:=ht.1;exact⟨by omega,fun i=>h.s.s i⟩
def zmK (l:List Ev):List UInt8:=(l.filter fun e=>decide (e.k=1)).map (·.v)
def zl4 (R:RunD):List Ev:=(List.range R.many).map R.ev
def qW (R:RunD):List UInt8:=zmK (zl4 R)
def zag (l:List InsD):List UInt8->RunD->Option RunD
 | [],S=>match l[(goR l l.length S).pc]? with
  | none=>some (goR l l.length S)
  | some _=>none
 | v::vs,S=>match l[(goR l l.length S).pc]? with
  | none=>none
  | some x=>zag l vs (zU (goR l l.length S) x v)
theorem znX (a b:List Ev):zmK (a++b)=zmK a++zmK b:=by
 unfold zmK;rw [Kw,QR]
theorem zoG (R:RunD) (k l v m:UInt8) (d:Nat):zl4 (jK R k l v m d)=zl4 R++[⟨0,k,l,v,m,UInt8.ofNat R.pc,UInt8.ofNat R.many⟩]:=by
 show (List.range (R.many+1)).map (upd R.ev R.many _)=_;rw [QW,QR,List.map_singleton,zL];congr 1;refine Kl fun i hi=>?_;have:=Uo.1 hi;exact qr _ _ (by omega)
theorem zaN (R:RunD) (k l v m:UInt8) (d:Nat):qW (jK R k l v m d)=qW R++if k=1 then [v] else []:=by
 unfold qW;rw [zoG,znX];congr 1;unfold zmK;by_cases h:k=1
 ·rw [Qo,Gp (Us h),Gp h];rfl
 ·rw [Qo,Gn (by simpa using h),Gn h];rfl
theorem zdF (R:RunD) (x:InsD) (o v:UInt8) (d:Nat):qW (zbz R x o v d)=qW R++[o]:=by
 show qW (jK (jK R 1 x.loc o 3 0) 2 x.loc v 3 d)=_;rw [zaN,zaN,Gp rfl,Gn (by decide),QK]
theorem zmJ {x:InsD} (hx:ExG x) (R:RunD) (v:UInt8):qW (zdT R x v)=qW R++if ju x=true then [v] else []:=by
 rcases hx with ⟨e,-⟩ | ⟨e,-⟩ | ⟨e,-⟩ | ⟨e,-⟩ | ⟨e,-⟩ | ⟨e,-⟩ | e | ⟨e,-⟩
 ·rw [zS.1 e,Gp (by unfold ju;rw [e];rfl)];show qW (jK R 1 x.loc v x.mode 0)=_;rw [zaN,Gp rfl]
 ·rw [zS.2.1 e,Gn (by unfold ju;rw [e];decide)];show qW (jK R 2 x.loc _ x.mode _)=_;rw [zaN,Gn (by decide)]
 ·rw [zS.2.2.1 e,Gn (by unfold ju;rw [e];decide),QK];rfl
 ·rw [zS.2.2.2.1 e,Gp (by unfold ju;rw [e];rfl)];exact zdF ..
 ·rw [zS.2.2.2.2.1 e,Gp (by unfold ju;rw [e];rfl)];show qW (zbz R x v (v+(qm x.ar x.an R).1) (qm x.ar x.an R).2)=_;exact zdF ..
 ·rw [zS.2.2.2.2.2.1 e,Gp (by unfold ju;rw [e];rfl)];unfold zc0
  split
  ·show qW (zbz R x v (qm x.br x.bn R).1 (qm x.br x.bn R).2)=_;exact zdF ..
  ·show qW (jK R 1 x.loc v 3 0)=_;rw [zaN,Gp rfl]
 ·rw [zS.2.2.2.2.2.2.1 e,Gn (by unfold ju;rw [e];decide)];show qW (jK R 3 0 0 x.mode 0)=_;rw [zaN,Gn (by decide)]
 ·rw [zS.2.2.2.2.2.2.2 e,Gn (by unfold ju;rw [e];decide),QK];unfold zbm;dsimp only
  split <;> rfl
theorem zkH {x:InsD} (hx:ExG x) (R:RunD) (v:UInt8):qW (zU R x v)=qW R++if ju x=true then [v] else []:=zmJ hx R v
section
variable {l:List InsD}
theorem zcN (ht:ThG l):∀ (n:Nat) (S:RunD),RunOk l S->qW (goR l n S)=qW S/\S.pc<=(goR l n S).pc
 | 0,S,_=>⟨rfl,UW _⟩
 | n+1,S,h=>by
  show qW (match l[S.pc]? with | none=>S | some x=>if ju x then S else goR l n (zU S x 0))=_/\S.pc<=(match l[S.pc]? with | none=>S | some x=>if ju x then S else goR l n (zU S x 0)).pc
  cases hg:l[S.pc]? with
  | none=>exact⟨rfl,UW _⟩
  | some x =>
   dsimp only
   split
   ·exact⟨rfl,UW _⟩
   ·rename_i hr;obtain⟨h1,h2⟩:=zaY (v:=0) ht h hg;obtain⟨h3,h4⟩:=zcN ht n _ h1;refine⟨?_,by omega⟩;rw [h3,zkH (ht.2 _ _ hg).1,Gn hr,QK]
end
theorem zbd {n:Nat} {f:Nat->Value} (h:∀ i,(f i).oneCell'=true):(seg n f).all Value.oneCell'=true:=by
 unfold seg;rw [Qk];intro u hu;obtain⟨i,_,rfl⟩:=UJ.1 hu;exact h i
theorem zmn:(zi1).toArray.size=259:=by kernel_rfl
theorem znP (R:RunD):(qA R).all Value.oneCell'=true:=by
 unfold qA;rw [UA,QJ,QJ,QJ,QJ,QJ,QJ,zbd fun _=>rfl,zbd fun _=>rfl,zbd fun _=>rfl,zbd fun _=>rfl,zbd fun _=>rfl];have:(zdR R.ev).all Value.oneCell'=true:=Qk.2 fun u hu=>zcf (E:=evE) _ u hu;rw [this];rfl
theorem qS {α:Type} {E:Enc α} {w X:Wd} {q:OA} {l:List α} (h:SlR E w q l) (hs:∀ a,q=some a->X.heap[a.block]?=w.heap[a.block]?):SlR E X q l:=by
 rcases h with h | ⟨b',o,h1,h2,h3⟩
 ·exact .inl h
 ·have h4:=hs _ h1;have h4:X.heap[b']?=w.heap[b']?:=h4;refine .inr ⟨b',o,h1,?_,fun i hi=>jo h4 (h3 i hi)⟩;have h5:w.heap[b']?=some w.heap[b']:=Jo h2;rw [h5] at h4;exact hlt h4
structure RowF {α:Type} (E:Enc α) (n0:Nat) (F:Nat->Prop) (X:Wd) (q:OA) (l:List α):Prop where
 row:SlR E X q l
 out:∀ a,q=some a->a.block<n0/\¬ F a.block
theorem RowF.keep {α:Type} {E:Enc α} {n0:Nat} {F F' G:Nat->Prop} {X Y:Wd} {q:OA} {l:List α} (h:RowF E n0 F X q l) (hn:n0<=X.heap.size) (k:KeepsG G F' X Y) (hG:∀ k,k<n0->G k->F k):RowF E n0 F' Y q l:=by
 refine⟨qS h.row fun a ha=>?_,fun a ha=>⟨(h.out a ha).1,fun hf=>?_⟩⟩
 ·have:=h.out a ha;exact k.same _ (by omega) fun hg=>this.2 (hG _ this.1 hg)
 ·have:=h.out a ha;rcases k.fp _ hf with h2 | h2
  ·exact this.2 (hG _ this.1 h2)
  ·omega
def StR (pre:List RunD) (vs:List Value) (W:Wd):Prop:=∃ R b,pre.getLast?=some R/\vs=[AtR b]/\jq W b R
section
variable {yl n0 cap cd:Nat} {J Jx:List RunD->(Nat->Prop)->Wd->Prop} {xs:List RunD} {l:List InsD} {dom:List UInt8} {q p:OA}
theorem ziK {w:Wd}:Calls PG 75 #[.slice q l.length cap,.slice p dom.length cd] w fun e w'=>e = .returned (.func (.func 104) #[] #[AtR w.heap.size,AtR (w.heap.size+1)])/\w'.heap[w.heap.size]?=some (.cells #[.slice q l.length cap] 42 (0,0))/\w'.heap[w.heap.size+1]?=some (.cells #[.slice p dom.length cd] 23 (0,0))/\w'.heap.size=w.heap.size+2/\Bw w w':=by
 refine zI 6 [.slice q l.length cap,.slice p dom.length cd] Tryz.func75 ?_;have s1:=wz w (.cells #[.slice q l.length cap] 42);have h2:=zz (w.alloc (.cells #[.slice q l.length cap] 42)) (.cells #[.slice p dom.length cd] 23);have s2:=wz (w.alloc (.cells #[.slice q l.length cap] 42)) (.cells #[.slice p dom.length cd] 23);rw [s1] at h2 s2;refine⟨?_,qF _ (zz w _),h2,s2,((zba w _)).alloc (by simp) _⟩;rw [<- s1];rfl
end
theorem zrH {P:Program} {t e:TypeId} (hu:P.underlying t=some (.slice e)) (d:Nat) (a:OA) (n c:Nat) (w:Wd):(Op.equalIn (d+1) t (.slice a n c) (.slice none 0 0)).run P w = .ok a.isNone w:=by
 cases a <;> simp [Op.equalIn,Ut hu]
theorem ziC {n m:Nat} (h:n<256) (hm:Nat.ble 256 m=true):n<m:=nL h (JS hm)
theorem zrJ {P:Program} {t e:TypeId} (hu:P.underlying t=some (.slice e)) (x y:Operand) (a:OA) (n c:Nat) (w:Wd):(do eqGuard .eql t x y (.slice a n c) (.slice none 0 0);binOp .eql t (.slice a n c) (.slice none 0 0):Sem Value).run P w = .ok (.bool a.isNone) w:=by
 have h:(Op.equal t (.slice a n c) (.slice none 0 0)).run P w = .ok a.isNone w:=by
  exact zrH hu 9999 a n c w
 have h1:(eqGuard .eql t x y (.slice a n c) (.slice none 0 0)).run P w = .ok () w:=by
  simp only [eqGuard,Uw,Ku,Gk,UU]
 rw [UT,h1];simp only [Qb,binOp,UT,h,UU]
theorem zgi {α:Type} {E:Enc α} {T:TypeId} {w:Wd}:OwnS E T w.heap.size (w.alloc (.cells #[] T)) (some ⟨w.heap.size,0,none⟩) 0 []:=by
 unfold OwnS World.ownsRow;exact⟨by simp,.inr ⟨w.heap.size,0,#[],rfl,UW _,zz w _,UW _,UZ _,by simp,by simp⟩⟩
theorem zkn {p:OA} {cap:Nat} {l:List UInt8} {w:Wd} (hl:SlR zC w p l) (hn:l.length<=1000000) (hc:p=none->cap=0) :
  Calls PG 42 #[.slice p l.length cap] w fun e w'=>(∃ q c,e = .returned (.slice q l.length c)/\OwnS zC 5 w.heap.size w' q c l)/\Bw w w':=by
 refine zI 8 [.slice p l.length cap] Tryz.func42 ?_;refine⟨_,fun w=>zrJ Tryz.underlying23 _ _ p l.length cap w,?_⟩
 cases p with
 | none =>
  refine brT ?_;have e:=hl.none;subst e;exact⟨⟨none,0,rfl,OwnS.nil⟩,Gb _ _⟩
 | some a =>
  refine brF ⟨⟨by decide,by decide,rfl⟩,[],rfl,?_⟩;have hb0:Bw w (w.alloc (.cells #[] 5)):=zba w _;refine zfS (E:=zC) (T:=5) (B:=w.heap.size) (l:=[]) (news:=l) (cap:=0) Tryz.underlying23 k5 rfl rfl rfl zgi rfl (hl.below hb0) (fun h=>by cases h) hb0.size (by simp;omega) (by simp;omega) ?_;intro p' cap' w' ho hg hbw;exact⟨⟨p',cap',rfl,ho⟩,hb0.trans hbw⟩
theorem zrx {x:UInt8} {w:Wd}:Calls PG 160 #[u8 x] w fun e w'=>e = .returned (.bool false)/\w=w':=by
 refine zI 6 [u8 x] Tryz.func160 ?_;refine⟨rb ?_,rfl⟩;rw [Us rfl];rfl
theorem jC {x y:UInt8} {w:Wd}:Calls PG 143 #[u8 x,u8 y] w fun e w'=>e = .returned (.bool (decide ((x.toNat:Int)<(y.toNat:Int))))/\w=w':=by
 refine zI 17 [u8 x,u8 y] Tryz.func143 ?_;refine cmo zrx ?_;rintro e _ ⟨rfl,rfl⟩;exact brF (brF ⟨rfl,rfl⟩)
def zaH:UInt8->List UInt8->List UInt8
 | _,[]=>[]
 | p,y::r=>if y=p then zaH p r else y::zaH y r
def ded:List UInt8->List UInt8
 | []=>[]
 | x::r=>x::zaH x r
theorem zfa:∀ (A:List UInt8) (p x:UInt8),zaH p (A++[x])=if x=(p::A).getLast (by simp) then zaH p A else zaH p A++[x]
 | [],p,x=>by
  show (if x=p then [] else [x])=_;rfl
 | y::A,p,x=>by
  show (if y=p then zaH p (A++[x]) else y::zaH y (A++[x]))=_;have hl:(p::y::A).getLast (by simp)=(y::A).getLast (by simp):=List.getLast_cons (by simp);rw [hl];show _=if x=(y::A).getLast _ then (if y=p then zaH p A else y::zaH y A) else (if y=p then zaH p A else y::zaH y A)++[x]
  by_cases h:y=p
  ·subst h;rw [Gp rfl,Gp rfl,zfa A y x]
  ·rw [Gn h,Gn h,zfa A y x]
   split <;> rfl
theorem zoT {A:List UInt8} (h:A≠[]) (x:UInt8):ded (A++[x])=if x=A.getLast h then ded A else ded A++[x]:=by
 cases A with
 | nil=>exact Gq rfl h
 | cons y A =>
  show y::zaH y (A++[x])=_;rw [zfa];show _=if x=(y::A).getLast h then y::zaH y A else y::zaH y A++[x]
  split <;> rfl
theorem zj2 {l:List UInt8} {i:Nat} (h0:0<i) (hi:i<l.length):ded (l.take (i+1))=if l[i]=l[i-1] then ded (l.take i) else ded (l.take i)++[l[i]]:=by
 rw [tsg hi];have hne:l.take i≠[]:=by
  intro e;have:=Gj List.length e;rw [Qv,QO] at this;omega
 rw [zoT hne];have:(l.take i).getLast hne=l[i-1]:=by
  have hlen:(l.take i).length-1=i-1:=by rw [Qv];omega
  simp only [List.getLast_eq_getElem,List.getElem_take,hlen]
 rw [this]
section
variable {B g cap:Nat} {l:List UInt8} {w:Wd}
theorem zc2 {X:Wd} {sp:List Value} {M:List UInt8} (h:RowS zC 5 X g sp M) {i:Nat} (hi:i<M.length):X.cell? ⟨g,0+i*1,none⟩=some (u8 M[i]):=by
 have:=zb (h.at hi) (i:=0) (v:=u8 M[i]) rfl;exact this
theorem zkf {M:List UInt8} {i:Nat} {x:UInt8} (h:M[i]?=some x):∃ hi:i<M.length,M[i]=x:=by
 obtain⟨hi,e⟩:=Js.1 h;exact⟨hi,e⟩
theorem zlk (ho:OwnS zC 5 B w (some ⟨g,0,none⟩) cap l) (hn:l.length<=1000000) :
  Calls PG 74 #[.slice (some ⟨g,0,none⟩) l.length cap] w fun e w'=>e = .returned (.slice (some ⟨g,0,none⟩) (ded l).length cap)/\OwnS zC 5 B w' (some ⟨g,0,none⟩) cap (ded l)/\w.grownBy w' (some g):=by
 refine zI 61 [.slice (some ⟨g,0,none⟩) l.length cap] Tryz.func74 ?_;rcases ho.inv with ⟨h,_⟩ | ⟨g',cur,hg,hB,hcur,hlc,hcm,hcs,hct⟩
 ·cases h
 simp only [Qa,Uu,Gi] at hg;subst hg;have hcs:cur.size=cap:=by rw [hcs];exact UX _
 obtain⟨sp,hsp⟩:=nm (cur.toList.drop l.length);have hct:cur.toList.take l.length=l.flatMap zC.enc:=by rw [<- hct];congr 1;exact (UX _).symm
 have hR:RowS zC 5 w g sp l:=by
  unfold RowS;rw [hcur,<- hct,hsp,JQ]
 have hspl:l.length+sp.length=cap:=by
  have h1:cur.toList.length=cap:=by rw [Array.length_toList];exact hcs
  rw [hsp,Qu,h1];omega
 refine biE (fun h=>?_) fun h=>?_
 ·have h:(l.length:Int)<2:=dT h;have e:ded l=l:=by
   match l,h with
   | [],_=>rfl
   | [x],_=>rfl
   | x::y::r,h=>simp at h;omega
  rw [e];exact⟨rfl,ho,z3 w _⟩
 have h:¬ (l.length:Int)<2:=dF h;have hl2:2<=l.length:=by omega
 refine⟨Nat,fun k=>⟨[(0,.slice (some ⟨g,0,none⟩) l.length cap),(3,i64 (k:Nat))],[]⟩,fun k X=>1<=k/\k<=l.length/\ded (l.take k)=l.take k/\RowS zC 5 X g sp l/\w.grownBy X (some g),fun k=>l.length-k,1,
  (cvE rfl rfl),⟨UW _,by omega,by
   cases l with
   | nil=>rfl
   | cons x r=>rfl,hR,z3 w _⟩,?_⟩
 rintro k X ⟨hk1,hkl,hdk,hRX,gX⟩;refine biE (fun hc=>?_) fun hc=>?_
 ·have hc:(k:Int)<(l.length:Int):=dT hc;have hk:k<l.length:=by omega
  refine DrawE.ord [] [0,1,2,3,4,5,6,7,8,9] (by kernel_rfl) ?_;have hRd:RowS zC 5 X.drew g sp l:=hRX;have gd:w.grownBy X.drew (some g):=zd gX ⟨rfl,rfl,rfl,UW _,fun _ _ _=>rfl⟩;refine⟨k,rfl,hk,_,zc2 hRd hk,((k-1:Nat):Int),(ze (by omega)).trans (by omega),k-1,rfl,by omega,?_⟩;refine⟨_,zc2 hRd (by omega),?_⟩;have hnx:=zj2 (l:=l) hk1 hk;refine biE (fun he=>?_) fun he=>?_
  ·have he:l[k]=l[k-1]:=jj.1 (dT he);rw [Gp he] at hnx;refine⟨k,rfl,by show k<=l.length;omega,?_⟩;have hcb:jd (some ⟨g,0,none⟩) cap k 1=some ⟨g,k,none⟩:=by
    unfold jd;rw [Gn (by omega)];show some ((⟨g,0,none⟩:Addr).add (k*1))=_;rw [za0,UX,UR]
   refine⟨Nat×Nat×List UInt8,fun s=>⟨[(0,.slice (some ⟨g,0,none⟩) l.length cap),(3,i64 (s.2.1:Nat)),(4,.slice (some ⟨g,k,none⟩) (l.length-k) (cap-k)),(5,i64 (s.1:Nat))],[]⟩,
    fun s Y=>(1<=s.1/\k+s.1<=l.length)/\(s.2.1=(ded (l.take (k+s.1))).length/\s.2.1+1<=k+s.1)/\(s.2.2.length=l.length/\s.2.2.take s.2.1=ded (l.take (k+s.1))/\∀ j,s.2.1<=j->s.2.2[j]?=l[j]?)/\RowS zC 5 Y g sp s.2.2/\w.grownBy Y (some g),fun s=>l.length-s.1,(1,k,l),
    ⟨.cons rfl (.cons rfl (.cons (by rw [<- hcb];rfl) (.cons rfl .nil))),rfl⟩,⟨⟨UW _,by show k+1<=_;omega⟩,⟨by show k=_;rw [hnx,hdk,Qv];omega,UW _⟩,⟨rfl,by show l.take k=_;rw [hnx,hdk],fun j _=>rfl⟩,hRd,gd⟩,?_⟩
   rintro⟨m,q,M⟩ Y ⟨⟨hm1,hml⟩,⟨hq,hqm⟩,⟨hM,hMt,hMj⟩,hRY,gY⟩;dsimp only at hm1 hml hq hqm hM hMt hMj hRY ⊢;refine biE (fun hc=>?_) fun hc=>?_
   ·have hc:(m:Int)<((l.length-k:Nat):Int):=dT hc;have hi:k+m<l.length:=(by omega);have g1:M[k+m]?=some l[k+m]:=(by rw [hMj _ (by omega),gE hi]);have g0:M[k+m-1]?=some l[k+m-1]:=(by rw [hMj _ (by omega),gE (by omega)]);obtain⟨i1,e1⟩:=zkf g1;obtain⟨i0,e0⟩:=zkf g0;have nx:=zj2 (l:=l) (i:=k+m) (by omega) hi;refine DrawE.ord [] [0,1,2,3,4,5,6,7,8,9] (by kernel_rfl) ?_;have hRYd:RowS zC 5 Y.drew g sp M:=hRY;have gYd:w.grownBy Y.drew (some g):=zd gY ⟨rfl,rfl,rfl,UW _,fun _ _ _=>rfl⟩;have a1:Y.drew.cell? ⟨g,k+m*1,none⟩=some (u8 l[k+m]):=by
     have:=zc2 hRYd i1;rw [e1,UX,UR] at this;rw [UX];exact this
    have a0:Y.drew.cell? ⟨g,k+(m-1)*1,none⟩=some (u8 l[k+m-1]):=by
     have:=zc2 hRYd i0;rw [e0,UX,UR] at this;rw [UX,<- Nat.add_sub_assoc hm1];exact this
    refine⟨m,rfl,by omega,?_⟩;refine⟨_,a1,((m-1:Nat):Int),(ze (by omega)).trans (by omega),m-1,rfl,by omega,?_⟩;refine⟨_,a0,biE (fun hne=>?_) fun hne=>?_⟩
    ·have hne:¬ l[k+m]=l[k+m-1]:=fun e=>by
      have hne:(!decide (((l[k+m]).toNat:Int)=((l[k+m-1]).toNat:Int)))=true:=hne;rw [e,Us rfl] at hne;cases hne
     rw [Gn hne] at nx;refine⟨m,rfl,by omega,?_⟩;refine⟨_,a1,q,rfl,by omega,?_⟩;refine zhm k5 rfl hRYd (i:=q) (by omega) l[k+m] fun Z hRZ gZ sZ=>nxI (by omega) (nxI (by omega) ⟨(m+1,q+1,M.set q l[k+m]),(cvE rfl rfl),⟨⟨by omega,by show k+(m+1)<=_;omega⟩,⟨?_,by show q+1+1<=k+(m+1);omega⟩,⟨by rw [QQ];exact hM,?_,fun j hj=>?_⟩,hRZ,zd gYd gZ⟩,zdc (by omega)⟩)
     ·show q+1=(ded (l.take (k+(m+1)))).length;rw [<- UD,nx,lap,<- hq];rfl
     ·show (M.set q l[k+m]).take (q+1)=ded (l.take (k+(m+1)));rw [<- UD,nx,<- hMt];rw [tsg (by rw [QQ];omega),List.take_set_of_le (UW _),List.getElem_set_self]
     ·show (M.set q l[k+m])[j]?=l[j]?;have hj:q+1<=j:=hj;rw [JV (by omega)];exact hMj j (by omega)
    ·have heq:l[k+m]=l[k+m-1]:=by
      have hne:(!decide (((l[k+m]).toNat:Int)=((l[k+m-1]).toNat:Int)))=false:=hne;have h2:decide (((l[k+m]).toNat:Int)=((l[k+m-1]).toNat:Int))=true:=(by simpa using hne);exact jj.1 (dT h2)
     rw [Gp heq] at nx;exact nxI (by omega) ⟨(m+1,q,M),(cvE rfl rfl),⟨⟨by omega,by show k+(m+1)<=_;omega⟩,⟨by show q=(ded (l.take (k+(m+1)))).length;rw [<- UD,nx];exact hq,by show q+1<=k+(m+1);omega⟩,⟨hM,by show M.take q=ded (l.take (k+(m+1)));rw [<- UD,nx];exact hMt,hMj⟩,hRYd,gYd⟩,zdc (by omega)⟩
   ·have hc:¬ (m:Int)<((l.length-k:Nat):Int):=dF hc;have hkm:k+m=l.length:=(by omega);rw [hkm,Qx] at hq hMt;refine⟨q,rfl,by show q<=l.length;omega,?_⟩;have hcb2:jd (some ⟨g,0,none⟩) cap q 1=some ⟨g,q,none⟩:=by
     unfold jd;rw [Gn (by omega)];show some ((⟨g,0,none⟩:Addr).add (q*1))=_;rw [za0,UX,UR]
    have hfl:(M.flatMap zC.enc++sp).length=cap:=by
     rw [lap,qp,hM];show l.length*1+_=_;omega
    have hcl:SatR ((Builtin.clear_ #[23] 0 #[.slice (some ⟨g,q,none⟩) (l.length-q) (cap-q)]).run PG Y) fun _ Z=>Z.heap[g]?=some (.cells ((M.flatMap zC.enc++sp).take q++List.replicate (l.length-q) (u8 0)++(M.flatMap zC.enc++sp).drop (q+(l.length-q))).toArray 5 (0,0))/\Y.grownBy Z (some g) :=
     zm8 Tryz.underlying23 k5 rfl rfl (by omega) hRY (by show q+(l.length-q)<=(M.flatMap zC.enc++sp).length;rw [hfl];omega) fun Z fZ gZ sZ=>⟨fZ,gZ⟩
    obtain⟨v,Z,hrun,fZ,gZ⟩:=hcl;refine⟨v,Z,by rw [hcb2];exact hrun,?_⟩;refine⟨q,rfl,by show q<=cap;omega,?_⟩;rw [<- hq];refine⟨by show Ending.returned (Value.slice (jd (some ⟨g,0,none⟩) cap 0 1) (q-0) (cap-0))=_;rw [zct];rfl,?_,zd gY gZ⟩;unfold OwnS World.ownsRow;refine⟨by rw [qp],.inr ⟨g,cap,_,rfl,hB,fZ,by omega,hcm,?_,?_⟩⟩
    ·show (List.length _)=cap*1;rw [lap,lap,Qv,JN,Qu,hfl];omega
    ·rw [<- hq];show ((M.flatMap zC.enc++sp).take q++List.replicate (l.length-q) (u8 0)++(M.flatMap zC.enc++sp).drop (q+(l.length-q))).take (q*1)=_;rw [UX,KQ,Jh (by rw [Qv,hfl];omega),List.take_take,Nat.min_self,Jh (by rw [qp,hM];show q<=l.length*1;omega),<- hMt];have:=JQ q M;have e2:M.flatMap zC.enc=(M.take q).flatMap zC.enc++(M.drop q).flatMap zC.enc:=(by rw [<- Kh,JQ]);rw [e2,QX (by rw [qp,Qv];show min q M.length*1=q;omega)]
  ·have he:¬ l[k]=l[k-1]:=fun e=>(dF he) (by rw [e]);rw [Gn he,hdk] at hnx;exact nxI (by omega) ⟨k+1,(cvE rfl rfl),⟨by omega,hk,by rw [hnx,tsg hk],hRd,gd⟩,zdc (by omega)⟩
 ·have hc:¬ (k:Int)<(l.length:Int):=dF hc;obtain rfl:k=l.length:=by omega
  rw [Qx] at hdk;rw [hdk];refine⟨rfl,?_,gX⟩;unfold OwnS World.ownsRow;refine⟨by rw [qp],.inr ⟨g,cap,_,rfl,hB,hRX,by omega,hcm,?_,?_⟩⟩
  ·show (l.flatMap zC.enc++sp).length=cap*1;rw [lap,qp];show l.length*1+_=_;omega
  ·exact QX (qp l)
end
def prE:Enc (Nat×Nat):=⟨fun x=>[u8 (UInt8.ofNat x.1),u8 (UInt8.ofNat x.2)],2,fun _=>rfl,by decide,fun a u hu=>by
 simp only [UC,Qw,Gl] at hu;rcases hu with rfl | rfl <;> rfl⟩
def zf5:Enc Nat:=⟨fun x=>[s32 x],1,fun _=>rfl,by decide,fun a u hu=>by
 simp only [UC,Qw,Gl] at hu;subst hu;rfl⟩
theorem zq8 {s:Nat} {w:Wd} (hT:Tz32M w) (h0:s≠0) (h:s<2^32):Calls PG 101 #[s32 s] w fun e w'=>e = .returned (i64 (ctz s:Nat))/\w=w':=by
 refine zI 14 [s32 s] Tryz.func101 ?_;obtain⟨h2,h3⟩:=zgP h0 h;obtain⟨t1,t2⟩:=znx h3;refine brN (Uh (fun e=>h0 (by omega))) ⟨((2^32-s:Nat):Int),by unfold IntKind.wrap;simp only [IntKind.bits,IntKind.signed,Uj,Ku,Gk];omega,?_⟩;refine⟨((2^ctz s:Nat):Int),(zlo (a:=s) (b:=2^32-s) h (by omega)).trans (by rw [h2]),?_⟩;refine⟨((2^ctz s*125613361%4294967296:Nat):Int),by
  have e:(((2^ctz s:Nat):Int)*125613361)=((2^ctz s*125613361:Nat):Int):=by rw [QI];rfl
  rw [e];generalize 2^ctz s*125613361=n;unfold IntKind.wrap;simp only [IntKind.bits,IntKind.signed,Uj,Ku,Gk];omega,?_⟩
 refine⟨by decide,((2^ctz s*125613361%4294967296/2^27:Nat):Int),by
  generalize 2^ctz s*125613361%4294967296=n;show (n:Int).fdiv (2^(min (Int.toNat (27:Int)) IntKind.u32.bits))=_;rw [show min (Int.toNat (27:Int)) IntKind.u32.bits=27 from rfl,Jm _ (by decide)];omega,?_⟩
 refine⟨_,rfl,t1,?_⟩;have hv:(zhi.map u8)[2^ctz s*125613361%4294967296/2^27]?=some (u8 (UInt8.ofNat (ctz s))):=by rw [KV,t2];rfl
 refine⟨u8 (UInt8.ofNat (ctz s)),by rw [UX];exact zb hT hv,?_⟩;have e:(UInt8.ofNat (ctz s)).toNat=ctz s:=by rw [KI];omega
 exact⟨(ctz s:Int),by rw [e];exact ze (by omega),rfl,rfl⟩
def jS:Nat->List Nat->List (Nat×Nat)
 | _,[]=>[]
 | i,s::r=>(els s).map (fun a=>(a,i))++jS (i+1) r
theorem zgg (f:Nat->Nat):∀ (n i:Nat),jS i ((List.range' i n).map f)=(List.range' i n).flatMap fun i=>(els (f i)).map fun a=>(a,i)
 | 0,i=>rfl
 | n+1,i=>by
  rw [List.range'_succ,UB,KT];show (els (f i)).map _++jS (i+1) _=_;rw [zgg f n (i+1)]
theorem zc9 (f:Nat->Nat) (n:Nat):jS 0 ((List.range n).map f)=zcQ f n:=by
 unfold zcQ;rw [List.range_eq_range'];exact zgg f n 0
theorem zkP (l:List Nat) (x:Nat):∀ i,jS i (l++[x])=jS i l++(els x).map (fun a=>(a,i+l.length)):=by
 induction l with
 | nil=>intro i;show (els x).map _++[]=_;rw [QK];rfl
 | cons y r ih =>
  intro i;show (els y).map _++jS (i+1) (r++[x])=((els y).map _++jS (i+1) r)++_;rw [ih,KQ,Qt];congr 3;funext a;congr 1;omega
theorem zeV:∀ (l:List Nat) (i:Nat),(jS i l).length<=64*l.length
 | [],_=>UZ _
 | x::r,i=>by
  show ((els x).map _++jS (i+1) r).length<=_;rw [lap,QN,Qt];have h1:=zeV r (i+1);have h2:=zew x;omega
section
variable {p:OA} {cap:Nat} {l:List Nat} {w:Wd}
theorem zit (hl:SlR zf5 w p l) (hn:l.length<=24) (hb:∀ x∈l,x<2^32) (hT:Tz32M w) :
  Calls PG 72 #[.slice p l.length cap] w fun e w'=>(∃ q c,e = .returned (.slice q (jS 0 l).length c)/\OwnS prE 184 w.heap.size w' q c (jS 0 l))/\Bw w w':=by
 refine zI 30 [.slice p l.length cap] Tryz.func72 ?_;refine⟨Nat×OA×Nat,fun s=>⟨[(3,.slice s.2.1 (jS 0 (l.take s.1)).length s.2.2),(6,.slice p l.length cap),(7,i64 l.length),(8,i64 (s.1:Nat))],[]⟩,
  fun s X=>s.1<=l.length/\OwnS prE 184 w.heap.size X s.2.1 s.2.2 (jS 0 (l.take s.1))/\Bw w X,fun s=>l.length-s.1,(0,none,0),
  (cvE rfl rfl),⟨UZ _,OwnS.nil,Gb _ _⟩,?_⟩
 rintro⟨k,q,c⟩ X ⟨hk,ho,hbX⟩;dsimp only at hk ho ⊢;refine biE (fun hc=>?_) fun hc=>?_
 ·have hc:(k:Int)<(l.length:Int):=dT hc;have hkl:k<l.length:=by omega
  obtain⟨b,o,hp,hlt',hat⟩:=(hl.below hbX).at hkl;have ep:some (Value.slice p l.length cap)=some (Value.slice (some ⟨b,o,none⟩) l.length cap):=by rw [hp]
  subst hp;refine⟨k,rfl,hkl,s32 l[k],by have:=zb (hat k hkl) (i:=0) (v:=s32 l[k]) rfl;exact this,?_⟩;have hlk:=hb _ (gM hkl);have htl:(l.take k).length=k:=by rw [Qv];omega
  have hpl:=zeV (l.take k) 0;have tk:l.take (k+1)=l.take k++[l[k]]:=tsg hkl;refine⟨Nat×List (Nat×Nat)×OA×Nat,fun s=>⟨[(3,.slice s.2.2.1 s.2.1.length s.2.2.2),(4,i64 (k:Nat)),(5,s32 s.1),(6,.slice (some ⟨b,o,none⟩) l.length cap),(7,i64 l.length),(8,i64 (k:Nat))],[]⟩,
   fun s Y=>(jS 0 (l.take (k+1))=s.2.1++(els s.1).map (fun a=>(a,k))/\s.1<2^32/\s.2.1.length+(els s.1).length<=64*(k+1))/\OwnS prE 184 w.heap.size Y s.2.2.1 s.2.2.2 s.2.1/\Bw w Y,fun s=>s.1,(l[k],jS 0 (l.take k),q,c),
   (cvE rfl rfl),⟨⟨by rw [tk,zkP,htl,UR],hlk,by have:=zew l[k];show (jS 0 (l.take k)).length+(els l[k]).length<=_;omega⟩,ho,hbX⟩,?_⟩
  rintro⟨s,m,q,c⟩ Y ⟨⟨he,hs,hlen⟩,ho,hbY⟩;dsimp only at he hs hlen ho ⊢;refine biE (fun hc=>?_) fun hc=>?_
  ·have hc:(!decide ((s:Int)=0))=true:=hc;have h0:s≠0:=fun e=>by
    subst e;exact Gq hc (by decide)
   have hs64:s<2^64:=nL hs (by decide);obtain⟨e1,e2,_,_⟩:=jN h0 hs64;obtain⟨_,hc32⟩:=zgP h0 hs;rw [e1] at hlen;refine cmo (zq8 (hT.below hbY) h0 hs) ?_;rintro e _ ⟨rfl,rfl⟩;refine⟨_,w8N _,_,w8N _,prE.enc (ctz s,k),rfl,⟨by decide,by decide,rfl⟩,prE.enc (ctz s,k),zaB rfl rfl,?_⟩;have hba:Bw Y (Y.alloc (.cells (prE.enc (ctz s,k)).toArray 184)):=zba _ _;simp only [Qt] at hlen;refine js (E:=prE) (T:=184) (B:=w.heap.size) (l:=m) (news:=[(ctz s,k)]) (cap:=c) (m:=1) Tryz.underlying71 zsz rfl rfl rfl (ho.below hba) rfl (qE prE (ctz s,k)) (by have:=hbY.size;have:=hba.size;omega) (by omega) (by show (m.length+1)*2<=_;omega) ?_;intro p2 c2 Z oZ gZ hbZ hat2;refine⟨((s-1:Nat):Int),(w32 (a:=(s:Int)-1) (by omega)).trans (by omega),((qV s:Nat):Int),zlo (a:=s) (b:=s-1) hs (by omega),(qV s,m++[(ctz s,k)],p2,c2),(cvE rfl rfl),⟨⟨?_,by show qV s<_;omega,?_⟩,oZ,((zst hbY hba)).trans hbZ⟩,e2⟩
   ·rw [he,e1,UB,KQ];rfl
   ·simp only [lap,Qt,QO];omega
  ·have hc:(!decide ((s:Int)=0))=false:=hc;have h0:s=0:=by
    have h1:decide ((s:Int)=0)=true:=(by simpa using hc);exact Uz (dT h1)
   subst h0;rw [zaC,List.map_nil,QK] at he;exact nxI (by omega) ⟨(k+1,q,c),⟨.cons (by rw [he];rfl) (.cons rfl (.cons rfl (.cons rfl .nil))),rfl⟩,⟨hkl,by show OwnS prE _ _ _ _ _ (jS 0 (l.take (k+1)));rw [he];exact ho,hbY⟩,zdc (by omega)⟩
 ·have hc:¬ (k:Int)<(l.length:Int):=dF hc;obtain rfl:k=l.length:=by omega
  rw [Qx] at ho;refine⟨⟨q,c,by rw [Qx];rfl,ho⟩,hbX⟩
theorem zh7 {p:OA} {cap:Nat} {l:List Ev} {w:Wd} (hl:SlR evE w p l) (hn:l.length<=100000) (hc:p=none->cap=0) :
  Calls PG 49 #[.slice p l.length cap] w fun e w'=>(∃ q c,e = .returned (.slice q l.length c)/\OwnS evE 60 w.heap.size w' q c l)/\Bw w w':=by
 refine zI 8 [.slice p l.length cap] Tryz.func49 ?_;refine⟨_,fun w=>zrJ Tryz.underlying43 _ _ p l.length cap w,?_⟩
 cases p with
 | none =>
  refine brT ?_;have e:=hl.none;subst e;exact⟨⟨none,0,rfl,OwnS.nil⟩,Gb _ _⟩
 | some a =>
  refine brF ⟨⟨by decide,by decide,rfl⟩,[],rfl,?_⟩;have hb0:Bw w (w.alloc (.cells #[] 60)):=zba w _;refine zfS (E:=evE) (T:=60) (B:=w.heap.size) (l:=[]) (news:=l) (cap:=0) Tryz.underlying43 k60 rfl rfl rfl zgi rfl (hl.below hb0) (fun h=>by cases h) hb0.size (by simp;omega) (by show (0+l.length)*16<=_;omega) ?_;intro p' cap' w' ho hg hbw;exact⟨⟨p',cap',rfl,ho⟩,hb0.trans hbw⟩
end
def zb8 (P:PathD) (q1:OA) (c1:Nat) (q2:OA) (c2:Nat) (q3:OA) (c3:Nat) (q4:OA) (c4:Nat):List Value :=
 [.slice q1 P.ev.length c1,.slice q2 P.data.length c2,.slice q3 P.ctrl.length c3,.slice q4 P.rmw.length c4]++seg 8 (fun i=>u8 (P.regs i))
theorem zb7 (P:PathD) (q1 c1 q2 c2 q3 c3 q4 c4):(zb8 P q1 c1 q2 c2 q3 c3 q4 c4).all Value.oneCell'=true:=by
 unfold zb8;rw [QJ,zbd fun _=>rfl];rfl
theorem zbu (P:PathD) (q1 c1 q2 c2 q3 c3 q4 c4):(zb8 P q1 c1 q2 c2 q3 c3 q4 c4).length=12:=by
 unfold zb8;rw [lap,zo];rfl
def zsH (R:RunD):Prop:=∀ i,i<R.many->R.data i<2^32/\R.ctrl i<2^32/\R.att i<2^32
section
variable {R:RunD} {b:Nat} {w:Wd}
theorem zmy {X:Wd} {o n m:Nat} {f:Nat->Nat} (hb:b<X.heap.size) (h:∀ i,i<n->X.cell? ⟨b,o+i,none⟩=some (s32 (f i))) (hm:m<=n):SlR zf5 X (some ⟨b,o,none⟩) ((List.range m).map f):=by
 refine .inr ⟨b,o,rfl,hb,fun i hi=>?_⟩;have hi:i<m:=by simpa using hi
 rw [Qr,Kz];refine zab fun j v hv=>?_
 cases j with
 | zero =>
  have hv:s32 (f i)=v:=by simpa [zf5] using hv
  rw [<- hv];show X.cell? ⟨b,o+i*1+0,none⟩=_;rw [UX,UL];exact h i (by omega)
 | succ j=>simp [zf5] at hv
theorem zqe {X:Wd} {m:Nat} (f:jq X b R) (hm:m<=24):SlR evE X (some ⟨b,19,none⟩) ((List.range m).map R.ev):=by
 have hc:=zlv f;refine .inr ⟨b,19,rfl,hlt f,fun i hi=>?_⟩;have hi:i<m:=by simpa using hi
 rw [Qr,Kz,<- zoH R.ev (show i<24 by omega)];exact zF hc
theorem zn7 (f:jq w b R) (hm:R.many<=24) (hB:zsH R) (hT:Tz32M w) :
  Calls PG 40 #[AtR b] w fun e w'=>(∃ q1 c1 q2 c2 q3 c3 q4 c4,e = .returned (.agg (zb8 (jf R) q1 c1 q2 c2 q3 c3 q4 c4).toArray)/\OwnS evE 60 w.heap.size w' q1 c1 (jf R).ev/\OwnS prE 184 w.heap.size w' q2 c2 (jf R).data/\OwnS prE 184 w.heap.size w' q3 c3 (jf R).ctrl/\OwnS prE 184 w.heap.size w' q4 c4 (jf R).rmw)/\Bw w w':=by
 refine zI 44 [AtR b] Tryz.func40 ?_;obtain⟨Z0,hZ0⟩:∃ Z0:List Value,Z0=zb8 ⟨[],[],[],[],fun _=>0⟩ none 0 none 0 none 0 none 0:=⟨_,rfl⟩;have f0:=zz w (.cells Z0.toArray 73);have hb0:Bw w (w.alloc (.cells Z0.toArray 73)):=zba w _;obtain⟨X,hX⟩:=nm ((w.alloc (.cells Z0.toArray 73)).drew);have hbX:Bw w X:=by rw [hX];exact hb0.drew
 have f0X:X.heap[w.heap.size]?=some (.cells Z0.toArray 73 (0,0)):=by rw [hX];exact f0
 have fX:=zc hbX f;have hX':(w.alloc (.cells (#[.slice none 0 0,.slice none 0 0,.slice none 0 0,.slice none 0 0,.int .u8 0,.int .u8 0,.int .u8 0,.int .u8 0,.int .u8 0,.int .u8 0,.int .u8 0,.int .u8 0]:Array Value) 73)).drew=X:=by rw [hX,hZ0];rfl
 refine DrawE.ord [41] [0,1,2,3,4,5,6,7,9,10,11,12,13,14,15,16,18,19,20,21,22,23,24,25,27,28,29,30,31,32,33,34,36,37,38,39,8,17,26,35,40,41] (by kernel_rfl) ?_;have cut:∀ (o e:Nat),Value.slice (jd (some ⟨b,0+o,none⟩) 24 0 e) (R.many-0) (24-0) = .slice (some ⟨b,o,none⟩) R.many 24:=fun o e=>by rw [zct,UR];rfl
 have lm:∀ {α:Type} (g:Nat->α),((List.range R.many).map g).length=R.many:=fun g=>by rw [QN,KW]
 have hbx:=hlt fX;have sd:∀ {o:Nat} {g:Nat->Nat},(∀ i,i<24->(qA R)[o+i]?=some (s32 (g i)))->SlR zf5 X (some ⟨b,o,none⟩) ((List.range R.many).map g):=fun {o g} h=>zmy hbx (fun i hi=>by
  have:=zb (za fX) (h i hi);rw [UR] at this;exact this) hm
 rw [hX'];refine⟨_,zb (za fX) (i:=18) (zbp R),R.many,rfl,hm,_,zb (za fX) (i:=18) (zbp R),R.many,rfl,hm,_,zb (za fX) (i:=18) (zbp R),R.many,rfl,hm,_,zb (za fX) (i:=18) (zbp R),R.many,rfl,hm,seg 8 (fun i=>u8 (R.regs i)),zo _ _,?_,hbx,?_⟩
 ·have:=zF (n:=1) (m:=8) (za fX);have e:((qA R).toArray.toList.drop 1).take 8=seg 8 (fun i=>u8 (R.regs i)):=by
   show (seg 8 (fun i=>u8 (R.regs i))++_).take 8=_;exact QX (zo _ _)
  rw [e] at this;exact this
 have c1:=zh7 (w:=X) (cap:=24) (zqe fX hm) (by rw [lm];omega) (fun h=>by cases h);rw [lm,<- cut 19 7] at c1;refine cmo c1 ?_;rintro e Y1 ⟨⟨q1,k1,rfl,o1⟩,hb1⟩;refine⟨hb1,?_⟩;have hw1:=zst hbX hb1;have c2:=zit (w:=Y1) (cap:=24) ((sd (o:=187) (g:=R.data) fun i hi=>zjm R hi).below hb1) (by rw [lm];exact hm) (fun x hx=>by
  obtain⟨i,hi,rfl⟩:=UJ.1 hx;exact (hB i (Uo.1 hi)).1) (hT.below hw1)
 rw [lm,<- cut 187 1,zc9] at c2;refine cmo c2 ?_;rintro e Y2 ⟨⟨q2,k2,rfl,o2⟩,hb2⟩;refine⟨hb2,?_⟩;have hx2:=zst hb1 hb2;have hw2:=zst hbX hx2;have c3:=zit (w:=Y2) (cap:=24) ((sd (o:=211) (g:=R.ctrl) fun i hi=>zjn R hi).below hx2) (by rw [lm];exact hm) (fun x hx=>by
  obtain⟨i,hi,rfl⟩:=UJ.1 hx;exact (hB i (Uo.1 hi)).2.1) (hT.below hw2)
 rw [lm,<- cut 211 1,zc9] at c3;refine cmo c3 ?_;rintro e Y3 ⟨⟨q3,k3,rfl,o3⟩,hb3⟩;refine⟨hb3,?_⟩;have hx3:=zst hx2 hb3;have hw3:=zst hbX hx3;have c4:=zit (w:=Y3) (cap:=24) ((sd (o:=235) (g:=R.att) fun i hi=>zij R hi).below hx3) (by rw [lm];exact hm) (fun x hx=>by
  obtain⟨i,hi,rfl⟩:=UJ.1 hx;exact (hB i (Uo.1 hi)).2.2) (hT.below hw3)
 rw [lm,<- cut 235 1,zc9] at c4;refine cmo c4 ?_;rintro e Y4 ⟨⟨q4,k4,rfl,o4⟩,hb4⟩;refine⟨hb4,?_⟩;have hx4:=zst hx3 hb4;have hw4:=zst hbX hx4;have le1:(jf R).ev.length=R.many:=lm _;obtain⟨cs,hcs⟩:=nm (zb8 (jf R) q1 k1 q2 k2 q3 k3 q4 k4);refine⟨cs,by rw [hcs];unfold zb8;rw [le1];rfl,?_⟩;have f4:=zc hx4 f0X;have hone:cs.all Value.oneCell'=true:=by rw [hcs];exact zb7 ..
 have hlen:cs.length=12:=by rw [hcs];exact zbu ..
 refine zE (v := .agg cs.toArray) k73 f4 hlen (by rw [hZ0];rfl) hone ?_;have f5:=zx (cs':=(Value.agg cs.toArray).cells) f4;have hs:w.heap.size<=X.heap.size:=hbX.size;have keep:∀ {α:Type} {E:Enc α} {T B c:Nat} {p:OA} {l:List α},X.heap.size<=B->OwnS E T B Y4 p c l->OwnS E T w.heap.size (Y4.setRow w.heap.size (Value.agg cs.toArray).cells) p c l:=fun {α E T B c p l} hB o=>by
  refine OwnS.lower (o.kept (jb Y4 w.heap.size _) fun g hg e=>?_) (UM hs hB);rcases o.inv with ⟨h,_⟩ | ⟨g',cur,h,h2,_⟩
  ·rw [h] at hg;cases hg
  ·rw [h] at hg;simp only [Qa,Uu,Gi] at hg e;have:=hlt f0X;omega
 have n1:=hb1.size;have n2:=hb2.size;have n3:=hb3.size;refine⟨cs,hlen,za f5,⟨q1,k1,q2,k2,q3,k3,q4,k4,by rw [hcs];rfl,keep (UW _) (((o1.below hb2).below hb3).below hb4),keep (by omega) ((o2.below hb3).below hb4),keep (by omega) (o3.below hb4),keep (by omega) o4⟩,zy hw4 (UW _) _⟩
end
theorem jQ (c : UInt8) (w : Wd) : Calls PG 118 #[u8 c] w fun e w' => e = .returned (i64 (z7 c)) ∧ w = w' := by
  refine zdV (S := sg 47) (zbc _) (args := [u8 c]) (.s .p (.c .p .p)) Tryz.func118 rfl rfl (JS rfl) rfl ?_
  refine ⟨Unit, fun _ => ⟨[(0, u8 c)], []⟩, fun _ X => zfn c = false ∧ zgE c = false ∧ w = X, ?_, ?_⟩
  · repeat first
      | exact ⟨(), ⟨.cons rfl .nil, rfl⟩, by unfold zfn; simp only [*]; rfl, by unfold zgE; simp only [*]; rfl, rfl⟩
      | exact ⟨by
          first
          | (have e : zfn c = true := by unfold zfn; simp only [*]; rfl
             unfold z7; rw [e]; rfl)
          | (have e1 : zfn c = false := by unfold zfn; simp only [*]; rfl
             have e2 : zgE c = true := by unfold zgE; simp only [*]; rfl
             unfold z7; rw [e1, e2]; rfl), rfl⟩
      | refine brT ?_
      | refine brF ?_
      | refine brE (by assumption) ?_
      | refine brN (by assumption) ?_
      | refine Gg (fun h => ?_) (fun h => ?_)
  rintro _ _ ⟨h1, h2, rfl⟩
  have key : z7 c = (bif eqB c 32 || eqB c 9 then 1 else bif eqB c 10 then 2 else bif eqB c 95 then 5 else bif eqB c 35 then 7 else bif zlT c then 6 else 0) := by unfold z7; rw [h1, h2]; rfl
  rw [key]
  clear key h1 h2
  unfold zlT
  refine Gg (fun h => ?_) (fun h => ?_)
  · have h : eqB c 32 = true := h
    refine brE h ?_
    exact ⟨by rw [h]; rfl, rfl⟩
  have h32 : eqB c 32 = false := h
  refine Gg (fun h => ?_) (fun h => ?_)
  · have h : eqB c 9 = true := h
    exact ⟨by rw [h32, h]; rfl, rfl⟩
  have h9 : eqB c 9 = false := h
  refine Gg (fun h => ?_) (fun h => ?_)
  · have h : eqB c 10 = true := h
    exact ⟨by rw [h32, h9, h]; rfl, rfl⟩
  have h10 : eqB c 10 = false := h
  refine Gg (fun h => ?_) (fun h => ?_)
  · have h : eqB c 95 = true := h
    exact ⟨by rw [h32, h9, h10, h]; rfl, rfl⟩
  have h95 : eqB c 95 = false := h
  refine Gg (fun h => ?_) (fun h => ?_)
  · have h : eqB c 35 = true := h
    exact ⟨by rw [h32, h9, h10, h95, h]; rfl, rfl⟩
  have h35 : eqB c 35 = false := h
  rw [h32, h9, h10, h95, h35]
  refine Gg (fun h => ?_) (fun h => ?_)
  · have h : eqB c 61 = true := h
    refine brE h ?_
    exact ⟨by rw [h]; rfl, rfl⟩
  have h61 : eqB c 61 = false := h
  refine Gg (fun h => ?_) (fun h => ?_)
  · have h : eqB c 43 = true := h
    refine brE h ?_
    exact ⟨by rw [h61, h]; rfl, rfl⟩
  have h43 : eqB c 43 = false := h
  refine Gg (fun h => ?_) (fun h => ?_)
  · have h : eqB c 45 = true := h
    refine brE h ?_
    exact ⟨by rw [h61, h43, h]; rfl, rfl⟩
  have h45 : eqB c 45 = false := h
  refine Gg (fun h => ?_) (fun h => ?_)
  · have h : eqB c 94 = true := h
    refine brE h ?_
    exact ⟨by rw [h61, h43, h45, h]; rfl, rfl⟩
  have h94 : eqB c 94 = false := h
  refine Gg (fun h => ?_) (fun h => ?_)
  · have h : eqB c 38 = true := h
    refine brE h ?_
    exact ⟨by rw [h61, h43, h45, h94, h]; rfl, rfl⟩
  have h38 : eqB c 38 = false := h
  refine Gg (fun h => ?_) (fun h => ?_)
  · have h : eqB c 124 = true := h
    refine brE h ?_
    exact ⟨by rw [h61, h43, h45, h94, h38, h]; rfl, rfl⟩
  have h124 : eqB c 124 = false := h
  refine Gg (fun h => ?_) (fun h => ?_)
  · have h : eqB c 33 = true := h
    refine brE h ?_
    exact ⟨by rw [h61, h43, h45, h94, h38, h124, h]; rfl, rfl⟩
  have h33 : eqB c 33 = false := h
  refine Gg (fun h => ?_) (fun h => ?_)
  · have h : eqB c 40 = true := h
    refine brE h ?_
    exact ⟨by rw [h61, h43, h45, h94, h38, h124, h33, h]; rfl, rfl⟩
  have h40 : eqB c 40 = false := h
  refine Gg (fun h => ?_) (fun h => ?_)
  · have h : eqB c 41 = true := h
    refine brE h ?_
    exact ⟨by rw [h61, h43, h45, h94, h38, h124, h33, h40, h]; rfl, rfl⟩
  have h41 : eqB c 41 = false := h
  refine Gg (fun h => ?_) (fun h => ?_)
  · have h : eqB c 58 = true := h
    refine brE h ?_
    exact ⟨by rw [h61, h43, h45, h94, h38, h124, h33, h40, h41, h]; rfl, rfl⟩
  have h58 : eqB c 58 = false := h
  refine Gg (fun h => ?_) (fun h => ?_)
  · have h : eqB c 60 = true := h
    exact ⟨by rw [h61, h43, h45, h94, h38, h124, h33, h40, h41, h58, h]; rfl, rfl⟩
  have h60 : eqB c 60 = false := h
  exact ⟨by rw [h61, h43, h45, h94, h38, h124, h33, h40, h41, h58, h60]; rfl, rfl⟩
theorem zjR (c : UInt8) (w : Wd) : Calls PG 120 #[u8 c] w fun e w' => e = .returned (.bool (qt c)) ∧ w = w' := by
  refine jp (S := sg 16) (zbc _) (args := [u8 c]) Tryz.func120 rfl rfl (JS rfl) rfl ?_
  refine Gc (jQ c w) ?_
  rintro e _ ⟨rfl, rfl⟩
  have e3 : ∀ k : Nat, decide ((z7 c : Int) = (k : Int)) = decide (z7 c = k) := fun k => by rw [QG]; omega
  refine Gg (fun h => ?_) (fun h => ?_)
  · have h : decide (z7 c = 3) = true := (e3 3).symm.trans h
    refine Gg (fun _ => ?_) (fun h => by cases h)
    exact ⟨rb (by unfold qt; rw [h]; rfl), rfl⟩
  have h3 : decide (z7 c = 3) = false := (e3 3).symm.trans h
  refine Gg (fun h => ?_) (fun h => ?_)
  · have h : decide (z7 c = 4) = true := (e3 4).symm.trans h
    exact ⟨rb (by unfold qt; rw [h3, h]; rfl), rfl⟩
  have h4 : decide (z7 c = 4) = false := (e3 4).symm.trans h
  exact ⟨rb (by unfold qt; rw [h3, h4]; exact e3 5), rfl⟩
theorem zbo {p:UInt8->Bool} {s:List UInt8} {k:Nat} (h:k<s.length):jJ p (s.drop k)=if p s[k] then jJ p (s.drop (k+1))+1 else 0:=by
 rw [Jq h];rfl
theorem zfG {p:UInt8->Bool} {s:List UInt8} {k:Nat} (h:s.length<=k):jJ p (s.drop k)=0:=by
 rw [JC h];rfl
theorem zjS {p:UInt8->Bool} (s:List UInt8) (k:Nat) (h:k<=s.length):k+jJ p (s.drop k)<=s.length:=by
 have:=zjp p (s.drop k);rw [Qu] at this;omega
theorem zbM {a b:Nat}:decide ((a:Int)=(b:Int))=decide (a=b):=by rw [QG];omega
theorem zch {s:List UInt8} {k:Nat} (h:k<s.length):(bs s).data.toList[k]?=some s[k]:=by
 show s[k]?=_;exact gE h
theorem zix {g a:Nat} {s:List UInt8} {w:Wd} (h:zu w ⟨g,0,none⟩ [qk s,i64 a]) :
  CB 166 #[At0 g] w (.bool (decide (s.length<=a))):=by
 refine zI 13 [At0 g] Tryz.func166 ?_;refine DrawE.ord [] [0,1,2,3,4,5,6,7,8,9,10] (by kernel_rfl) ?_;have h:zu w.drew ⟨g,0,none⟩ [qk s,i64 a]:=jo rfl h;refine⟨_,zb h (i:=1) rfl,_,zb h (i:=0) rfl,rb ?_,(Gb _ _).drew⟩;show decide ((s.length:Int)<=(a:Int))=_;rw [QG];omega
theorem zmi {g a:Nat} {s:List UInt8} {w:Wd} (h:zu w ⟨g,0,none⟩ [qk s,i64 a]) (hg:g<w.heap.size) :
  CB 164 #[At0 g] w (.bool (jT s a)):=by
 refine zI 18 [At0 g] Tryz.func164 ?_;refine DrawE.ord [] [0,1,2,3,4,5,6,7,8,9,10,11,12,13,14,15] (by kernel_rfl) ?_;have h:zu w.drew ⟨g,0,none⟩ [qk s,i64 a]:=jo rfl h;refine cmo (zix h) ?_;rintro e V ⟨rfl,hb⟩;refine⟨hb,?_⟩;have hw:=(Gb w.heap.size w).drew.trans hb;have hV:=jL hb hg h;refine biE (fun ho=>?_) fun ho=>?_
 ·have ho:s.length<=a:=dT ho;have:jT s a=true:=by unfold jT;rw [JK ho]
  exact⟨rb this.symm,hw⟩
 ·have ho:¬ s.length<=a:=dF ho;have hl:a<s.length:=by omega
  refine⟨_,zb hV (i:=0) rfl,_,zb hV (i:=1) rfl,a,rfl,hl,s[a],zch hl,cmo (jQ _ _) ?_⟩;rintro e _ ⟨rfl,rfl⟩;refine⟨Gb _ _,?_⟩;have:jT s a=decide (z7 s[a]=2):=by unfold jT;rw [gE hl]
  exact⟨rb (by rw [this];exact zbM),hw⟩
theorem zmp {g a:Nat} {s:List UInt8} {w:Wd} (h:zu w ⟨g,0,none⟩ [qk s,i64 a]) (ha:a<s.length) (hs:s.length<=140737488351232) :
  Calls PG 171 #[At0 g] w fun e w'=>e = .returned (i64 (a+1+jJ qt (s.drop (a+1)):Nat))/\w=w':=by
 refine zI 28 [At0 g] Tryz.func171 ?_;refine⟨_,zb h (i:=1) rfl,(a+1:Nat),(ze (by omega)).trans (by omega),Nat,fun k=>⟨[(0,At0 g),(3,.int .i64 (k:Nat))],[]⟩,fun k X=>k<=s.length/\k+jJ qt (s.drop k)=a+1+jJ qt (s.drop (a+1))/\w=X,fun k=>s.length-k,a+1,(cvE rfl rfl),⟨ha,rfl,rfl⟩,?_⟩;rintro k _ ⟨hk,he,rfl⟩;dsimp only at hk he ⊢;refine⟨_,zb h (i:=0) rfl,biE (fun hc=>?_) fun hc=>?_⟩
 ·have hc:(k:Int)<(s.length:Int):=dT hc;have hl:k<s.length:=by omega
  refine⟨_,zb h (i:=0) rfl,k,rfl,hl,s[k],zch hl,cmo (zjR _ _) ?_⟩;rintro e _ ⟨rfl,rfl⟩;refine biE (fun hi=>?_) fun hi=>?_
  ·refine⟨(k+1:Nat),(ze (by omega)).trans (by omega),k+1,(cvE rfl rfl),⟨hl,?_,rfl⟩,zdc (by omega)⟩;rw [zbo hl,Gp hi] at he;omega
  ·have hi:¬ qt s[k]=true:=by rw [Qj];exact hi
   rw [zbo hl,Gn hi] at he;exact⟨by rw [<- he];rfl,rfl⟩
 ·have hc:¬ (k:Int)<(s.length:Int):=dF hc;refine Gg (fun h=>by cases h) (fun _=>?_);rw [zfG (by omega)] at he;exact⟨by rw [<- he];rfl,rfl⟩
theorem zjE {g a:Nat} {s:List UInt8} {w:Wd} (h:zu w ⟨g,0,none⟩ [qk s,i64 a]) (ha:a<s.length) (hs:s.length<=140737488351232) :
  Calls PG 172 #[At0 g] w fun e w'=>e = .returned (i64 (a+1+jJ za4 (s.drop (a+1)):Nat))/\w=w':=by
 refine zI 29 [At0 g] Tryz.func172 ?_;refine⟨_,zb h (i:=1) rfl,(a+1:Nat),(ze (by omega)).trans (by omega),Nat,fun k=>⟨[(0,At0 g),(3,.int .i64 (k:Nat))],[]⟩,fun k X=>k<=s.length/\k+jJ za4 (s.drop k)=a+1+jJ za4 (s.drop (a+1))/\w=X,fun k=>s.length-k,a+1,(cvE rfl rfl),⟨ha,rfl,rfl⟩,?_⟩;rintro k _ ⟨hk,he,rfl⟩;dsimp only at hk he ⊢;refine⟨_,zb h (i:=0) rfl,biE (fun hc=>?_) fun hc=>?_⟩
 ·have hc:(k:Int)<(s.length:Int):=dT hc;have hl:k<s.length:=by omega
  refine⟨_,zb h (i:=0) rfl,k,rfl,hl,s[k],zch hl,cmo (jQ _ _) ?_⟩;rintro e _ ⟨rfl,rfl⟩;have hd:decide ((z7 s[k]:Int)=4)=za4 s[k]:=zbM (b:=4);refine biE (fun hi=>?_) fun hi=>?_
  ·refine⟨(k+1:Nat),(ze (by omega)).trans (by omega),k+1,(cvE rfl rfl),⟨hl,?_,rfl⟩,zdc (by omega)⟩;rw [zbo hl,Gp (hd.symm.trans hi)] at he;omega
  ·have hi:¬ za4 s[k]=true:=by rw [Qj];exact hd.symm.trans hi
   rw [zbo hl,Gn hi] at he;exact⟨by rw [<- he];rfl,rfl⟩
 ·have hc:¬ (k:Int)<(s.length:Int):=dF hc;refine Gg (fun h=>by cases h) (fun _=>?_);rw [zfG (by omega)] at he;exact⟨by rw [<- he];rfl,rfl⟩
def zf2 (s:List UInt8) (a:Nat) (c:UInt8):Nat:=if (eqB c 61||eqB c 33)&&decide (s[a+1]?=some 61) then a+2 else a+1
theorem zmx {g a:Nat} {s:List UInt8} {w:Wd} (h:zu w ⟨g,0,none⟩ [qk s,i64 a]) (ha:a<s.length) (hs:s.length<=140737488351232) :
  CB 170 #[At0 g] w (i64 (zf2 s a s[a])):=by
 refine je 46 [At0 g] (.s .p (.s .p (.s .p (.c .p .p)))) Tryz.func170 ?_;refine⟨_,zb h (i:=1) rfl,(a+1:Nat),(ze (by omega)).trans (by omega),DrawE.ord [] [0,1,2,3,4,5,6,7,8,9] (by kernel_rfl) ?_⟩;have hd:zu w.drew ⟨g,0,none⟩ [qk s,i64 a]:=jo rfl h;refine⟨_,zb hd (i:=0) rfl,_,zb hd (i:=1) rfl,a,rfl,ha,s[a],zch ha,Unit,fun _=>⟨[(3,i64 (zf2 s a s[a]))],[]⟩,fun _ X=>X=w.drew,?_,?_⟩
 ·have no:((eqB s[a] 61||eqB s[a] 33)&&decide (s[a+1]?=some 61))=false->∃ _:Unit,some (Value.int .i64 ((a+1:Nat):Int))=some (i64 (zf2 s a s[a])):=fun hf=>⟨(),by unfold zf2;rw [hf];rfl⟩;refine biE (fun h1=>?_) fun h1=>?_
  ·have he:(eqB s[a] 61||eqB s[a] 33)=true:=by
    have:eqB s[a] 61=true:=h1;rw [this];rfl
   refine brT ⟨_,zb hd (i:=0) rfl,biE (fun h2=>?_) fun h2=>?_⟩
   ·have h2:((a+1:Nat):Int)<(s.length:Int):=dT h2;have hl:a+1<s.length:=(by omega);refine⟨_,zb hd (i:=0) rfl,a+1,rfl,hl,s[a+1],zch hl,biE (fun h3=>?_) fun h3=>?_⟩
    ·refine⟨(a+2:Nat),(ze (by omega)).trans (by omega),(),⟨.cons ?_ .nil,rfl⟩,rfl⟩;have h61:s[a+1]=61:=by
      apply Ug.1;have:((s[a+1].toNat:Nat):Int)=61:=dT h3;have h6:(61:UInt8).toNat=61:=rfl;omega
     unfold zf2;rw [he,gE hl,h61];rfl
    ·obtain⟨_,e⟩:=no (by
      have h61:¬ s[a+1]=61:=fun e=>by rw [e] at h3;cases h3
      rw [gE hl,Uh (by simpa using h61),Ui])
     exact⟨(),⟨.cons e .nil,rfl⟩,rfl⟩
   ·have h2:¬ ((a+1:Nat):Int)<(s.length:Int):=dF h2;refine brF ?_;obtain⟨_,e⟩:=no (by rw [JK (by omega)];simp);exact⟨(),⟨.cons e .nil,rfl⟩,rfl⟩
  ·have h1:eqB s[a] 61=false:=h1;refine biE (fun h1b=>?_) fun h1b=>?_
   ·have he:(eqB s[a] 61||eqB s[a] 33)=true:=by
     have:eqB s[a] 33=true:=h1b;rw [this,Bool.or_true]
    refine⟨_,zb hd (i:=0) rfl,biE (fun h2=>?_) fun h2=>?_⟩
    ·have h2:((a+1:Nat):Int)<(s.length:Int):=dT h2;have hl:a+1<s.length:=(by omega);refine⟨_,zb hd (i:=0) rfl,a+1,rfl,hl,s[a+1],zch hl,biE (fun h3=>?_) fun h3=>?_⟩
     ·refine⟨(a+2:Nat),(ze (by omega)).trans (by omega),(),⟨.cons ?_ .nil,rfl⟩,rfl⟩;have h61:s[a+1]=61:=by
       apply Ug.1;have:((s[a+1].toNat:Nat):Int)=61:=dT h3;have h6:(61:UInt8).toNat=61:=rfl;omega
      unfold zf2;rw [he,gE hl,h61];rfl
     ·obtain⟨_,e⟩:=no (by
       have h61:¬ s[a+1]=61:=fun e=>by rw [e] at h3;cases h3
       rw [gE hl,Uh (by simpa using h61),Ui])
      exact⟨(),⟨.cons e .nil,rfl⟩,rfl⟩
    ·have h2:¬ ((a+1:Nat):Int)<(s.length:Int):=dF h2;refine brF ?_;obtain⟨_,e⟩:=no (by rw [JK (by omega)];simp);exact⟨(),⟨.cons e .nil,rfl⟩,rfl⟩
   ·have h1b:eqB s[a] 33=false:=h1b;refine brF (brF ?_);obtain⟨_,e⟩:=no (by rw [h1,h1b];rfl);exact⟨(),⟨.cons e .nil,rfl⟩,rfl⟩
 rintro _ _ rfl;exact⟨rfl,(Gb _ _).drew⟩
def ScV (X:Wd) (g:Nat) (s:List UInt8) (a:Nat) (op:Bool):Prop:=X.heap[g]?=some (.cells #[qk s,i64 a,.bool op] 202 (0,0))
theorem ScV.cells {X:Wd} {g a:Nat} {s:List UInt8} {op:Bool} (h:ScV X g s a op):zu X ⟨g,0,none⟩ [qk s,i64 a]:=by
 have:=qu (o:=0) (n:=2) h;exact this
theorem ScV.below {X Y:Wd} {g a:Nat} {s:List UInt8} {op:Bool} (h:ScV X g s a op) (hb:Bw X Y):ScV Y g s a op:=zc hb h
theorem zfM {a b c:Wd} {g:Nat} (h:a.grownBy b (some g)) (k:Bw b c):a.grownBy c (some g):=zd h (zf k)
theorem zeQ {X:Wd} {g a:Nat} {s:List UInt8} {op:Bool} (h:ScV X g s a op) (v:Nat) {K:Wd->Prop} (k:∀ Y,ScV Y g s v op->X.grownBy Y (some g)->Y.heap.size=X.heap.size->K Y) :
  SatR ((storeVar 3 ⟨g,1,none⟩ (i64 v)).run PG X) fun _ w'=>K w' :=
 qQ k3 rfl h (o:=1) (by show 1<3;omega) (v:=i64 v) rfl rfl fun Y fY gY sY=>k Y fY gY sY
theorem zjw {X:Wd} {g a:Nat} {s:List UInt8} {op:Bool} (h:ScV X g s a op) (v:Bool) {K:Wd->Prop} (k:∀ Y,ScV Y g s a v->X.grownBy Y (some g)->Y.heap.size=X.heap.size->K Y) :
  SatR ((storeVar 4 ⟨g,2,none⟩ (.bool v)).run PG X) fun _ w'=>K w' :=
 qQ k4 rfl h (o:=2) (by show 2<3;omega) (v := .bool v) rfl rfl fun Y fY gY sY=>k Y fY gY sY
theorem zci {s:List UInt8} {k:Nat} (h:k<s.length):jT s k=decide (z7 s[k]=2):=by unfold jT;rw [gE h]
theorem zgX {s:List UInt8} {k:Nat} (h:s.length<=k):jT s k=true:=by unfold jT;rw [JK h]
theorem zrn {g a:Nat} {s:List UInt8} {op:Bool} {w:Wd} (h:ScV w g s a op) (ha:a<=s.length) (hs:s.length<=140737488351232) :
  Calls PG 163 #[At0 g] w fun e w'=>(∃ v,e = .returned v)/\ScV w' g s (zB s a) op/\w.grownBy w' (some g):=by
 refine je 50 [At0 g] (.c .p (.c .p .p)) Tryz.func163 ?_;obtain⟨b,hb⟩:=nm (zbR s a);have hbl:b<=s.length:=by rw [hb];exact zjS s a ha
 refine⟨Unit,fun _=>⟨[(0,At0 g)],[]⟩,fun _ X=>ScV X g s b op/\w.grownBy X (some g),?_,?_⟩
 ·refine⟨Nat,fun k=>⟨[(0,At0 g)],[]⟩,fun k X=>k<=s.length/\k+jJ ziX (s.drop k)=b/\ScV X g s k op/\w.grownBy X (some g),fun k=>s.length-k,a,(cvE rfl rfl),⟨ha,hb.symm,h,z3 _ _⟩,?_⟩;rintro k X ⟨hk,he,hX,hg⟩;dsimp only at hk he ⊢;refine DrawE.ord [] [0,1,2,3,4,5,6,7,8,9,10,11,12,13,14,15] (by kernel_rfl) ?_;have hXd:ScV X.drew g s k op:=hX;refine cmo (zix hXd.cells) ?_;rintro e Y ⟨rfl,hbY⟩;refine⟨hbY,?_⟩;have hY:=hXd.below hbY;have gY:w.grownBy Y (some g):=zd hg (zf ((Gb _ X).drew.trans hbY));refine biE (fun ho=>?_) fun ho=>?_
  ·have ho:s.length > k:=by
    have:(!decide (s.length<=k))=true:=ho;simpa using this
   refine⟨_,zb hY.cells (i:=0) rfl,_,zb hY.cells (i:=1) rfl,k,rfl,ho,s[k],zch ho,cmo (jQ _ _) ?_⟩;rintro e _ ⟨rfl,rfl⟩;refine⟨Gb _ _,?_⟩;have hd:decide ((z7 s[k]:Int)=1)=ziX s[k]:=zbM (b:=1);rw [zbo ho] at he;refine biE (fun hi=>?_) fun hi=>?_
   ·rw [Gp (hd.symm.trans hi)] at he;exact⟨_,zb hY.cells (i:=1) rfl,(k+1:Nat),(ze (by omega)).trans (by omega),zeQ hY (k+1) fun Z hZ gZ sZ=>⟨k+1,(cvE rfl rfl),⟨ho,by omega,hZ,zd gY gZ⟩,zdc (by omega)⟩⟩
   ·have hi:¬ ziX s[k]=true:=(by rw [Qj];exact hd.symm.trans hi);rw [Gn hi] at he;exact⟨(),(cvE rfl rfl),by rw [<- he];exact hY,gY⟩
  ·have ho:s.length<=k:=by
    have:(!decide (s.length<=k))=false:=ho;simpa using this
   refine brF ?_;rw [zfG ho] at he;exact⟨(),(cvE rfl rfl),by rw [<- he];exact hY,gY⟩
 clear h;rintro _ X ⟨hX,hg⟩;have hp:zB s a=match s[b]? with
   | some c=>if z7 c=7 then b+jJ zdv (s.drop b) else b
   | none=>b:=by rw [hb];rfl
 refine⟨Unit,fun _=>⟨[(0,At0 g)],[]⟩,fun _ X=>(∃ hl:b<s.length,z7 s[b]=7)/\ScV X g s b op/\w.grownBy X (some g),?_,?_⟩
 ·refine DrawE.ord [] [0,1,2,3,4,5,6,7,8,9,10,11,12,13,14] (by kernel_rfl) ?_;have hXd:ScV X.drew g s b op:=hX;refine cmo (zix hXd.cells) ?_;rintro e Y ⟨rfl,hbY⟩;refine⟨hbY,?_⟩;have hY:=hXd.below hbY;have gY:w.grownBy Y (some g):=zd hg (zf ((Gb _ X).drew.trans hbY));refine biE (fun ho=>?_) fun ho=>?_
  ·have ho:s.length<=b:=dT ho;refine brT ?_;have:zB s a=b:=by rw [hp,JK ho]
   rw [this];exact⟨⟨_,rfl⟩,hY,gY⟩
  ·have ho:¬ s.length<=b:=dF ho;have hl:b<s.length:=by omega
   refine⟨_,zb hY.cells (i:=0) rfl,_,zb hY.cells (i:=1) rfl,b,rfl,hl,s[b],zch hl,cmo (jQ _ _) ?_⟩;rintro e _ ⟨rfl,rfl⟩;refine⟨Gb _ _,biE (fun hi=>?_) fun hi=>?_⟩
   ·have hi:¬ z7 s[b]=7:=by
     have h1:(!decide ((z7 s[b]:Int)=7))=true:=hi;simp at h1;omega
    have:zB s a=b:=(by rw [hp,gE hl];simp only [Gn hi]);rw [this];exact⟨⟨_,rfl⟩,hY,gY⟩
   ·have hi:z7 s[b]=7:=by
     have h1:(!decide ((z7 s[b]:Int)=7))=false:=hi;simp at h1;omega
    exact⟨(),(cvE rfl rfl),⟨hl,hi⟩,hY,gY⟩
 clear hX hg X;rintro _ X ⟨⟨hl,h7⟩,hX,hg⟩;have hp:zB s a=b+jJ zdv (s.drop b):=by rw [hp,gE hl];simp only [Gp h7]
 rw [hp];refine⟨Nat,fun k=>⟨[(0,At0 g)],[]⟩,fun k X=>k<=s.length/\k+jJ zdv (s.drop k)=b+jJ zdv (s.drop b)/\ScV X g s k op/\w.grownBy X (some g),fun k=>s.length-k,b,(cvE rfl rfl),⟨hbl,rfl,hX,hg⟩,?_⟩;clear hX hg X;rintro k X ⟨hk,he,hX,hg⟩;dsimp only at hk he ⊢;refine cmo (zmi hX.cells (hlt hX)) ?_;rintro e Y ⟨rfl,hbY⟩;have hY:=hX.below hbY;have gY:=zfM hg hbY;refine biE (fun hi=>?_) fun hi=>?_
 ·have hi:jT s k=false:=by
   have h1:(!jT s k)=true:=hi;simpa using h1
  have hkl:k<s.length:=by
   by_cases h0:k<s.length
   ·exact h0
   ·rw [zgX (by omega)] at hi;cases hi
  have hn:zdv s[k]=true:=by
   rw [zci hkl] at hi;unfold zdv;rw [hi];rfl
  rw [zbo hkl,Gp hn] at he;exact⟨_,zb hY.cells (i:=1) rfl,(k+1:Nat),(ze (by omega)).trans (by omega),zeQ hY (k+1) fun Z hZ gZ sZ=>⟨k+1,(cvE rfl rfl),⟨hkl,by omega,hZ,zd gY gZ⟩,zdc (by omega)⟩⟩
 ·have hi:jT s k=true:=by
   have h1:(!jT s k)=false:=hi;simpa using h1
  have h0:jJ zdv (s.drop k)=0:=by
   by_cases h0:k<s.length
   ·rw [zci h0] at hi;rw [zbo h0,Gn];unfold zdv;rw [hi];decide
   ·exact zfG (by omega)
  rw [h0] at he;have he:k=b+jJ zdv (s.drop b):=by omega
  exact⟨⟨_,rfl⟩,by rw [<- he];exact hY,gY⟩
theorem zlK {s:List UInt8} {a:Nat} (ha:a<=s.length):zB s a<=s.length:=by
 have h1:zbR s a<=s.length:=zjS s a ha;unfold zB
 split
 ·split
  ·exact zjS s _ h1
  ·exact h1
 ·exact h1
def jk:Enc Tok:=⟨fun t=>[u8 t.kind,qk t.text,i64 t.pos],3,fun _=>rfl,by decide,fun a u hu=>by
 simp only [UC,Qw,Gl] at hu;rcases hu with rfl | rfl | rfl <;> rfl⟩
theorem zk3 {s:List UInt8} {a:Nat} (ha:a<s.length) (c:UInt8):a<zaG s a c/\zaG s a c<=s.length:=by
 unfold zaG
 split
 ·have:=zjS (p:=qt) s (a+1) ha;omega
 ·split
  ·have:=zjS (p:=za4) s (a+1) ha;omega
  ·split
   ·rename_i h;have h2:s[a+1]?=some 61:=by
     simp only [bAT,dE] at h;exact h.2
    have:=(Js.1 h2).1;omega
   ·omega
theorem zle (s:List UInt8) (a e:Nat):(bs s).extract a e=bs ((s.drop a).take (e-a)):=by
 have h:((bs s).extract a e).data=(bs ((s.drop a).take (e-a))).data:=by
  rw [ByteArray.data_extract];apply Qf.1;rw [JT];rfl
 exact ByteArray.ext h
theorem zpy {g a:Nat} {s:List UInt8} {op:Bool} {w:Wd} (h:ScV w g s a op) (ha:a<s.length) (hs:s.length<=140737488351232) :
  Calls PG 165 #[At0 g] w fun e w'=>e = .returned (.agg (jk.enc (zjc s a s[a])).toArray)/\ScV w' g s (zaG s a s[a]) op/\w.grownBy w' (some g):=by
 refine je 51 [At0 g] (.s .p (.s .p (.c .p .p))) Tryz.func165 ?_;obtain⟨z,hz⟩:=nm (jk.enc ⟨0,[],0⟩);obtain⟨W0,hW0⟩:=nm ((w.alloc (.cells z.toArray 175)));have hb0:Bw w W0:=by rw [hW0];exact (zba _ _)
 have f0:W0.heap[w.heap.size]?=some (.cells z.toArray 175 (0,0)):=by rw [hW0];exact zz w _
 have h0:ScV W0 g s a op:=h.below hb0;have hgl:g<w.heap.size:=hlt h;refine⟨Nat,fun f=>⟨[(0,At0 g),(2,.pointer (some ⟨w.heap.size,0,none⟩)),(3,u8 (zfm s[a])),(4,.func (.func f) #[] #[])],[]⟩,fun f X=>Bw W0 X /\
  ((z7 s[a]=3/\f=171)\/(¬ z7 s[a]=3/\z7 s[a]=4/\f=172)\/(¬ z7 s[a]=3/\¬ z7 s[a]=4/\f=170)),?_,?_⟩
 ·subst hz;subst hW0;refine DrawE.ord [] [0,1,2,3,4,5,6,7,8,9,10,11] (by kernel_rfl) ?_;have hd:ScV (w.alloc (.cells (jk.enc ⟨0,[],0⟩).toArray 175)).drew g s a op:=h0;refine⟨_,zb hd.cells (i:=0) rfl,_,zb hd.cells (i:=1) rfl,a,rfl,ha,s[a],zch ha,cmo (jQ _ _) ?_⟩;rintro e _ ⟨rfl,rfl⟩;refine⟨Gb _ _,biE (fun h3=>?_) fun h3=>?_⟩
  ·have h3:z7 s[a]=3:=by have h3:(z7 s[a]:Int)=3:=dT h3;omega
   exact⟨_,⟨.cons rfl (.cons rfl (.cons (by unfold zfm;rw [Gp h3];rfl) (.cons rfl .nil))),rfl⟩,(Gb _ _).drew,.inl ⟨h3,rfl⟩⟩
  have h3:¬ z7 s[a]=3:=by have h3:¬ (z7 s[a]:Int)=3:=dF h3;omega
  refine biE (fun h4=>?_) fun h4=>?_
  ·have h4:z7 s[a]=4:=by have h4:(z7 s[a]:Int)=4:=dT h4;omega
   exact⟨_,⟨.cons rfl (.cons rfl (.cons (by unfold zfm;rw [Gn h3,Gp h4];rfl) (.cons rfl .nil))),rfl⟩,(Gb _ _).drew,.inr (.inl ⟨h3,h4,rfl⟩)⟩
  ·have h4:¬ z7 s[a]=4:=by have h4:¬ (z7 s[a]:Int)=4:=dF h4;omega
   exact⟨_,⟨.cons rfl (.cons rfl (.cons (by unfold zfm;rw [Gn h3,Gn h4];rfl) (.cons rfl .nil))),rfl⟩,(Gb _ _).drew,.inr (.inr ⟨h3,h4,rfl⟩)⟩
 rintro f V ⟨hV,hf⟩;dsimp only at hV hf ⊢;have hVs:=h0.below hV;obtain⟨e1,e2⟩:=zk3 ha s[a];have fin:∀ Y,Bw V Y->∀ Z,ScV Z g s (zaG s a s[a]) op->Y.grownBy Z (some g)->Bw w Y/\Z.heap[w.heap.size]?=some (.cells z.toArray 175 (0,0))/\w.grownBy Z (some g):=fun Y hY Z hZ gZ=>by
  have hwY:=((zst hb0 hV)).trans (hY.mono (by have:=hb0.size;have:=hV.size;omega));have f1:=zc hY (zc hV f0);refine⟨hwY,(gZ.block _ (hlt f1) (fun e=>by simp only [Qa] at e;omega)).trans f1,zd (zf hwY) gZ⟩
 have last:∀ Z,Z.heap[w.heap.size]?=some (.cells z.toArray 175 (0,0))->w.grownBy Z (some g)->∀ R,Z.grownBy R (some w.heap.size)->w.grownBy R (some g):=fun Z _ gZ R gR =>
  ⟨gR.os.trans gZ.os,gR.tape.trans gZ.tape,gR.output.trans gZ.output,UM gZ.size gR.size,fun k hk hne=>(gR.block k (nL hk gZ.size) (fun e=>by simp only [Qa] at e;omega)).trans (gZ.block k hk hne)⟩
 have fill:∀ cs,cs=jk.enc (zjc s a s[a])->∀ Z,Z.heap[w.heap.size]?=some (.cells z.toArray 175 (0,0))->∀ (K:Wd->Prop),(∀ R,R.heap[w.heap.size]?=some (.cells (jk.enc (zjc s a s[a])).toArray 175 (0,0))->Z.grownBy R (some w.heap.size)->K R) ->
   SatR ((storeVar 175 ⟨w.heap.size,0,none⟩ (.agg cs.toArray)).run PG Z) fun _ w'=>K w':=fun cs hcs Z fZ K k=>by
  subst hz hcs;exact zE (v := .agg (jk.enc (zjc s a s[a])).toArray) zjP fZ rfl rfl rfl (k _ (zx fZ) (jb Z _ _))
 rcases hf with ⟨h3,rfl⟩ | ⟨h3,h4,rfl⟩ | ⟨h3,h4,rfl⟩
 ·refine⟨_,zb hVs.cells (i:=1) rfl,cmo (zmp hVs.cells ha hs) ?_⟩;rintro e _ ⟨rfl,rfl⟩;have hbY:Bw V V:=Gb _ _;have hVY:=hVs;have ee:a+1+jJ qt (s.drop (a+1))=zaG s a s[a]:=by unfold zaG;rw [Gp h3]
  rw [ee];refine zeQ hVY (zaG s a s[a]) fun Z hZ gZ sZ=>?_;obtain⟨hwY,fZ,gwZ⟩:=fin V hbY Z hZ gZ;refine DrawE.ord [15] [0,1,2,3,4,5,6,7,8,9,10,11,12,13,14,15] (by kernel_rfl) ?_;have hZd:ScV Z.drew g s (zaG s a s[a]) op:=hZ;refine⟨_,zb hZd.cells (i:=0) rfl,_,zb hZd.cells (i:=1) rfl,zaG s a s[a],rfl,e2,a,rfl,by omega,?_⟩;exact⟨[u8 (zfm s[a]),.string ((bs s).extract a (zaG s a s[a])),i64 a],rfl,fill _ (by rw [zle];rfl) Z.drew fZ _ fun R fR gR=>⟨_,rfl,za fR,rfl,(gR.block g (hlt hZd) (fun e=>by simp only [Qa] at e;omega)).trans hZd,last Z.drew fZ (zd gwZ (zf (Gb _ Z).drew)) R gR⟩⟩
 ·refine⟨_,zb hVs.cells (i:=1) rfl,cmo (zjE hVs.cells ha hs) ?_⟩;rintro e _ ⟨rfl,rfl⟩;have hbY:Bw V V:=Gb _ _;have hVY:=hVs;have ee:a+1+jJ za4 (s.drop (a+1))=zaG s a s[a]:=by unfold zaG;rw [Gn h3,Gp h4]
  rw [ee];refine zeQ hVY (zaG s a s[a]) fun Z hZ gZ sZ=>?_;obtain⟨hwY,fZ,gwZ⟩:=fin V hbY Z hZ gZ;refine DrawE.ord [15] [0,1,2,3,4,5,6,7,8,9,10,11,12,13,14,15] (by kernel_rfl) ?_;have hZd:ScV Z.drew g s (zaG s a s[a]) op:=hZ;refine⟨_,zb hZd.cells (i:=0) rfl,_,zb hZd.cells (i:=1) rfl,zaG s a s[a],rfl,e2,a,rfl,by omega,?_⟩;exact⟨[u8 (zfm s[a]),.string ((bs s).extract a (zaG s a s[a])),i64 a],rfl,fill _ (by rw [zle];rfl) Z.drew fZ _ fun R fR gR=>⟨_,rfl,za fR,rfl,(gR.block g (hlt hZd) (fun e=>by simp only [Qa] at e;omega)).trans hZd,last Z.drew fZ (zd gwZ (zf (Gb _ Z).drew)) R gR⟩⟩
 ·refine⟨_,zb hVs.cells (i:=1) rfl,cmo (zmx hVs.cells ha hs) ?_⟩;rintro e Y ⟨rfl,hbY⟩;have hVY:=hVs.below hbY;have ee:zf2 s a s[a]=zaG s a s[a]:=by unfold zaG;rw [Gn h3,Gn h4];rfl
  rw [ee];refine zeQ hVY (zaG s a s[a]) fun Z hZ gZ sZ=>?_;obtain⟨hwY,fZ,gwZ⟩:=fin Y hbY Z hZ gZ;refine DrawE.ord [15] [0,1,2,3,4,5,6,7,8,9,10,11,12,13,14,15] (by kernel_rfl) ?_;have hZd:ScV Z.drew g s (zaG s a s[a]) op:=hZ;refine⟨_,zb hZd.cells (i:=0) rfl,_,zb hZd.cells (i:=1) rfl,zaG s a s[a],rfl,e2,a,rfl,by omega,?_⟩;exact⟨[u8 (zfm s[a]),.string ((bs s).extract a (zaG s a s[a])),i64 a],rfl,fill _ (by rw [zle];rfl) Z.drew fZ _ fun R fR gR=>⟨_,rfl,za fR,rfl,(gR.block g (hlt hZd) (fun e=>by simp only [Qa] at e;omega)).trans hZd,last Z.drew fZ (zd gwZ (zf (Gb _ Z).drew)) R gR⟩⟩
def zdI (l:List UInt8):Nat:=l.foldl (fun v c=>10*v+(c.toNat-48)) 0
theorem zmT {s:List UInt8} {k:Nat} (h:k<s.length):zdI (s.take (k+1))=10*zdI (s.take k)+(s[k].toNat-48):=by
 unfold zdI;rw [tsg h,KU];rfl
theorem zqv {c:UInt8} (h:za4 c=true):48<=c.toNat/\c.toNat<=57:=by
 unfold za4 at h;have h:z7 c=4:=dT h;unfold z7 at h
 cases h1:zfn c with
 | true=>rw [h1] at h;cases h
 | false =>
  rw [h1] at h
  cases h2:zgE c with
  | true=>unfold zgE at h2;simp at h2;omega
  | false =>
   rw [h2] at h
   revert h
   cases eqB c 32||eqB c 9 <;> cases eqB c 10 <;> cases eqB c 95 <;> cases eqB c 35 <;> cases zlT c <;> (intro h;cases h)
theorem zsI (s:List UInt8) (hs:s.length<=140737488351232) (w:Wd):Calls PG 167 #[qk s] w fun e w'=>∃ v,e = .returned (.tuple #[u8 v,.bool (ziA s)])/\w=w':=by
 refine je 47 [qk s] (.s .p (.c .p .p)) Tryz.func167 ?_;have hnl:ziA s=(decide (1<=s.length)&&(decide (s.length<=3)&&(!(decide (s.head?=some 48)&&decide (1<s.length))&&(s.all za4&&decide (zdI s<=255))))):=rfl;refine⟨Unit,fun _=>⟨[(0,qk s)],[]⟩,fun _ X=>(1<=s.length/\s.length<=3/\(decide (s.head?=some 48)&&decide (1<s.length))=false)/\w=X,?_,?_⟩
 ·refine biE (fun h1=>?_) fun h1=>?_
  ·have h1:(s.length:Int)<1:=dT h1;exact brT (brT ⟨0,by rw [hnl,Uh (by omega)];rfl,rfl⟩)
  have h1:¬ (s.length:Int)<1:=dF h1;refine biE (fun h2=>?_) fun h2=>?_
  ·have h2:(3:Int)<(s.length:Int):=dT h2;exact brT ⟨0,by rw [hnl,Uh (p:=s.length<=3) (by omega)];simp;rfl,rfl⟩
  have h2:¬ (3:Int)<(s.length:Int):=dF h2;have h0:0<s.length:=by omega
  have hh:s.head?=some s[0]:=by rw [List.head?_eq_getElem?,gE h0]
  refine⟨0,rfl,h0,s[0],zch h0,biE (fun h3=>?_) fun h3=>?_⟩
  ·have h3:s[0]=48:=by
    apply Ug.1;have h3:((s[0].toNat:Nat):Int)=48:=dT h3;have:(48:UInt8).toNat=48:=rfl;omega
   refine biE (fun h4=>?_) fun h4=>?_
   ·have h4:(1:Int)<(s.length:Int):=dT h4;exact⟨0,by rw [hnl,hh,h3,Us (p:=1<s.length) (by omega)];simp;rfl,rfl⟩
   ·have h4:¬ (1:Int)<(s.length:Int):=dF h4;exact⟨(),(cvE rfl rfl),⟨by omega,by omega,by rw [Uh (p:=1<s.length) (by omega),Ui]⟩,rfl⟩
  ·refine brF ?_;exact⟨(),(cvE rfl rfl),⟨by omega,by omega,by
    have:¬ s[0]=48:=fun e=>by rw [e] at h3;cases h3
    rw [hh,Uh (by simpa using this),Uj]⟩,rfl⟩
 rintro _ _ ⟨⟨h1,h2,h3⟩,rfl⟩;have hnl:ziA s=(s.all za4&&decide (zdI s<=255)):=by rw [hnl,Us h1,Us h2,h3];rfl
 rw [hnl];refine⟨Nat,fun k=>⟨[(0,qk s),(4,i64 (zdI (s.take k):Nat)),(25,i64 s.length),(26,i64 (k:Nat))],[]⟩,fun k X=>k<=s.length/\(∀ c∈s.take k,za4 c=true)/\zdI (s.take k)<10^k/\w=X,fun k=>s.length-k,0,(cvE rfl rfl),⟨UZ _,by simp,Nat.one_pos,rfl⟩,?_⟩;rintro k _ ⟨hk,hdg,hv,rfl⟩;dsimp only at hk hdg hv ⊢;refine biE (fun hc=>?_) fun hc=>?_
 ·have hc:(k:Int)<(s.length:Int):=dT hc;have hl:k<s.length:=by omega
  refine⟨k,rfl,hl,s[k],zch hl,cmo (jQ _ _) ?_⟩;rintro e _ ⟨rfl,rfl⟩;have hd:decide ((z7 s[k]:Int)=4)=za4 s[k]:=zbM (b:=4);refine biE (fun hi=>?_) fun hi=>?_
  ·have hi:za4 s[k]=false:=by
    have h1:(!decide ((z7 s[k]:Int)=4))=true:=hi;rw [hd] at h1;simpa using h1
   have:s.all za4=false:=by
    rw [KN];exact⟨s[k],gM _,by rw [hi];simp⟩
   exact⟨0,by rw [this];rfl,rfl⟩
  ·have hi:za4 s[k]=true:=by
    have h1:(!decide ((z7 s[k]:Int)=4))=false:=hi;rw [hd] at h1;simpa using h1
   obtain⟨d1,d2⟩:=zqv hi;have hv3:zdI (s.take k)<1000:=nL hv (by
    have:k<=3:=(by omega);exact Ke (by decide) this)
   have hsn:=zmT hl;refine⟨((10*zdI (s.take k):Nat):Int),(ze (by omega)).trans (by omega),k,rfl,hl,s[k],zch hl,((s[k].toNat-48:Nat):Int),(zdZ (by omega)).trans (by omega),((s[k].toNat-48:Nat):Int),(ze (by omega)).trans (by omega),(zdI (s.take (k+1)):Int),(ze (by omega)).trans (by omega),(k+1:Nat),(ze (by omega)).trans (by omega),k+1,(cvE rfl rfl),⟨hl,?_,?_,rfl⟩,zdc (by omega)⟩
   ·rw [tsg hl];intro c hc;rcases QS.1 hc with hc | hc
    ·exact hdg c hc
    ·simp only [KB] at hc;rw [hc];exact hi
   ·rw [hsn,Nat.pow_succ];omega
 ·have hc:¬ (k:Int)<(s.length:Int):=dF hc;obtain rfl:k=s.length:=by omega
  rw [Qx] at hdg hv;have ha:s.all za4=true:=Qk.2 hdg;rw [ha,Qx];have hv3:zdI s<1000:=nL hv (Ke (by decide) h2);refine biE (fun h5=>?_) fun h5=>?_
  ·have h5:(255:Int)<(zdI s:Int):=dT h5;exact⟨0,by rw [Uh (by omega)];rfl,rfl⟩
  ·have h5:¬ (255:Int)<(zdI s:Int):=dF h5;exact⟨((UInt8.ofNat (zdI s)).toNat:Int),(zdZ (by omega)).trans (by rw [KI];omega),UInt8.ofNat (zdI s),by rw [Us (by omega)];rfl,rfl⟩
theorem zrC {t:Tok} (h:t.kind=3) (hl:0<t.text.length):jw t=if z7 t.text[0]=6 then 0 else 40:=by
 obtain⟨k,x,p⟩:=t;have h:k=3:=h;subst h
 cases x with
 | nil=>exact Gq hl (Nat.lt_irrefl 0)
 | cons a r=>rfl
theorem zp6 (t:Tok) (ht:t.kind=3->t.text≠[]) (hs:t.text.length<=140737488351232) (w:Wd):CB 154 #[.agg (jk.enc t).toArray] w (i64 (jw t)):=by
 refine zI 30 [.agg (jk.enc t).toArray] Tryz.func154 ?_;have hb0:Bw w (w.alloc (.cells (jk.enc t).toArray 175)):=zba _ _;have f0:=zz w (.cells (jk.enc t).toArray 175);have c0:zu (w.alloc (.cells (jk.enc t).toArray 175)) ⟨w.heap.size,0,none⟩ [u8 t.kind,qk t.text,i64 t.pos]:=za f0;have kd:∀ k:UInt8,decide ((t.kind.toNat:Int)=(k.toNat:Int))=decide (t.kind=k):=fun k=>by
  rw [QG];exact jj
 refine⟨_,zb c0 (i:=0) rfl,biE (fun h1=>?_) fun h1=>?_⟩
 ·have h1:t.kind=1:=dT ((kd 1).symm.trans h1);have e:jw t=if 16<t.text.length then 42 else 0:=by unfold jw;rw [Gp h1]
  rw [e];refine⟨_,zb c0 (i:=1) rfl,biE (fun h2=>?_) fun h2=>?_⟩
  ·have h2:(16:Int)<(t.text.length:Int):=dT h2;exact⟨by rw [Gp (by omega)];rfl,hb0⟩
  ·have h2:¬ (16:Int)<(t.text.length:Int):=dF h2;exact⟨by rw [Gn (by omega)];rfl,hb0⟩
 have h1:¬ t.kind=1:=dF ((kd 1).symm.trans h1);refine biE (fun h2=>?_) fun h2=>?_
 ·have h2:t.kind=2:=dT ((kd 2).symm.trans h2);have e:jw t=if ziA t.text then 0 else 41:=by unfold jw;rw [Gn h1,Gp h2]
  rw [e];refine⟨_,zb c0 (i:=1) rfl,cmo (zsI t.text hs _) ?_⟩;rintro e _ ⟨v,rfl,rfl⟩;refine biE (fun h3=>?_) fun h3=>?_
  ·have h3:(!ziA t.text)=true:=h3;have h3:ziA t.text=false:=by simpa using h3
   exact⟨by rw [h3];rfl,hb0⟩
  ·have h3:(!ziA t.text)=false:=h3;have h3:ziA t.text=true:=by simpa using h3
   exact⟨by rw [h3];rfl,hb0⟩
 have h2:¬ t.kind=2:=dF ((kd 2).symm.trans h2);refine biE (fun h3=>?_) fun h3=>?_
 ·have h3:t.kind=3:=dT ((kd 3).symm.trans h3);have hne:=ht h3;have hl:0<t.text.length:=List.length_pos_iff.2 hne;have e:jw t=if z7 t.text[0]=6 then 0 else 40:=zrC h3 hl
  rw [e];refine⟨_,zb c0 (i:=1) rfl,0,rfl,hl,t.text[0],zch hl,cmo (jQ _ _) ?_⟩;rintro e _ ⟨rfl,rfl⟩;refine biE (fun h4=>?_) fun h4=>?_
  ·have h4:(!decide ((z7 t.text[0]:Int)=6))=true:=h4;have h4:¬ z7 t.text[0]=6:=by simp at h4;omega
   exact⟨by rw [Gn h4];rfl,hb0⟩
  ·have h4:(!decide ((z7 t.text[0]:Int)=6))=false:=h4;have h4:z7 t.text[0]=6:=by simp at h4;omega
   exact⟨by rw [Gp h4];rfl,hb0⟩
 have h3:¬ t.kind=3:=dF ((kd 3).symm.trans h3);exact⟨by unfold jw;rw [Gn h1,Gn h2,Gn h3];rfl,hb0⟩
theorem ze1 {a b c:Wd} {g r:Nat} (h:a.grownBy b (some g)) (k:b.grownBy c (some r)) (hr:a.heap.size<=r):a.grownBy c (some g) :=
 ⟨k.os.trans h.os,k.tape.trans h.tape,k.output.trans h.output,UM h.size k.size,fun i hi hne=>(k.block i (nL hi h.size) (fun e=>by simp only [Qa] at e;omega)).trans (h.block i hi hne)⟩
theorem zpQ {x y:Int} {T:Array TypeId} {t:TypeId} {w:Wd} {K:Value->Wd->Prop} (k:K (.int .i64 (if y<x then y else x)) w):SatR ((Builtin.min_ T t [Value.int .i64 x,.int .i64 y].toArray).run PG w) K :=
 SatR.mk (v := .int .i64 (if y<x then y else x)) (w':=w) (by simp [Builtin.min_,Builtin.min2]) k
section
variable {s:List UInt8} {f a:Nat} {op:Bool}
theorem zjH (h:zB s a<s.length) (h2:¬ z7 s[zB s a]=2):j4 s (f+1) a op=some (zjc s (zB s a) s[zB s a],zaG s (zB s a) s[zB s a],true):=by
 unfold j4;rw [gE h];simp only [Gn h2]
theorem zgt (h:jT s (zB s a)=true):j4 s (f+1) a true=some (⟨4,[],zB s a⟩,min (zB s a+1) s.length,false):=by
 unfold j4;by_cases hp:zB s a<s.length
 ·rw [zci hp] at h;have h:=dT h;rw [gE hp];simp only [Gp h];rfl
 ·rw [JK (by omega)];rfl
theorem zhI (h:s.length<=zB s a):j4 s (f+1) a false=none:=by
 unfold j4;rw [JK h];rfl
theorem zhJ (h:zB s a<s.length) (h2:z7 s[zB s a]=2):j4 s (f+1) a false=j4 s f (min (zB s a+1) s.length) false:=by
 conv=>lhs;unfold j4
 rw [gE h];simp only [Gp h2];rfl
theorem zlL:a<=zB s a:=by
 have h1:a<=zbR s a:=Qz _ _;unfold zB
 split
 ·split
  ·omega
  ·exact h1
 ·exact h1
end
def zi4:Tok:=⟨0,[],0⟩
theorem zod {g a:Nat} {s:List UInt8} {op:Bool} {w:Wd} (h:ScV w g s a op) (ha:a<=s.length) (hs:s.length<=140737488351232) :
  Calls PG 153 #[At0 g] w fun e w'=>∃ t a' op' ok,e = .returned (.tuple #[.agg (jk.enc t).toArray,.bool ok])/\(ok=true->j4 s (s.length+2) a op=some (t,a',op'))/\(ok=false->j4 s (s.length+2) a op=none) /\
   a'<=s.length/\ScV w' g s a' op'/\w.grownBy w' (some g):=by
 refine zI 57 [At0 g] Tryz.func153 ?_;obtain⟨r,hr⟩:=nm (w.heap.size);have hgl:g<r:=by rw [hr];exact hlt h
 obtain⟨W0,hW0⟩:=nm (w.alloc (.cells (jk.enc zi4).toArray 175));have hb0:Bw w W0:=by rw [hW0];exact (zba _ _)
 have f0:W0.heap[r]?=some (.cells (jk.enc zi4).toArray 175 (0,0)):=by rw [hW0,hr];exact zz w _
 have h0:ScV W0 g s a op:=h.below hb0;refine⟨Nat×Nat×Bool,fun k=>⟨[(0,At0 g),(2,At0 r)],[]⟩,fun k X=>s.length+1<=k.1+k.2.1/\k.2.1<=s.length/\j4 s (k.1+1) k.2.1 k.2.2=j4 s (s.length+2) a op/\ScV X g s k.2.1 k.2.2/\w.grownBy X (some g)/\X.heap[r]?=some (.cells (jk.enc zi4).toArray 175 (0,0)),
  fun k=>s.length-k.2.1,(s.length+1,a,op),⟨.cons rfl (.cons (by rw [hr];rfl) .nil),rfl⟩,⟨by omega,ha,rfl,by subst hW0;exact h0,by subst hW0;exact zf hb0,by subst hW0;exact f0⟩,?_⟩
 clear hW0 hb0 f0 h0 W0;rintro⟨f,k,o⟩ X ⟨hf,hk,hn,hX,gX,fX⟩;dsimp only at hf hk hn hX gX fX ⊢;have fillR:∀ (t:Tok) (Y:Wd),Y.heap[r]?=some (.cells (jk.enc zi4).toArray 175 (0,0))->∀ (K:Wd->Prop),(∀ R,R.heap[r]?=some (.cells (jk.enc t).toArray 175 (0,0))->Y.grownBy R (some r)->K R) ->
   SatR ((storeVar 175 ⟨r,0,none⟩ (.agg (jk.enc t).toArray)).run PG Y) fun _ w'=>K w':=fun t Y fY K q =>
  zE (v := .agg (jk.enc t).toArray) zjP fY rfl rfl rfl (q _ (zx fY) (jb Y _ _))
 have keepR:∀ {A B:Wd},A.grownBy B (some g)->A.heap[r]?=some (.cells (jk.enc zi4).toArray 175 (0,0))->B.heap[r]?=some (.cells (jk.enc zi4).toArray 175 (0,0)):=fun hg hA=>(hg.block _ (hlt hA) (fun e=>by simp only [Qa] at e;omega)).trans hA;have keepS:∀ {A B:Wd} {a:Nat} {o:Bool} {q:Nat},A.grownBy B (some q)->g≠q->ScV A g s a o->ScV B g s a o:=fun hg hq hA=>(hg.block _ (hlt hA) (fun e=>hq (by simpa using e))).trans hA;refine cmo (zrn hX hk hs) ?_;rintro e Y ⟨⟨v,rfl⟩,hY,gY⟩;have hp:=zlK (s:=s) hk;have hpk:=zlL (s:=s) (a:=k);have fY:=keepR gY fX;have gwY:=zd gX gY;refine cmo (zmi hY.cells (hlt hY)) ?_;rintro e Z ⟨rfl,hbZ⟩;have hZ:=hY.below hbZ;have gwZ:=zfM gwY hbZ;have fZ:=zc hbZ fY;refine biE (fun hc=>?_) fun hc=>?_
 ·have hc:jT s (zB s k)=false:=by
   have h1:(!jT s (zB s k))=true:=hc;simpa using h1
  have hl:zB s k<s.length:=by
   by_cases h1:zB s k<s.length
   ·exact h1
   ·rw [zgX (by omega)] at hc;cases hc
  rw [zci hl] at hc;have hc:=dF hc;rw [zjH hl hc] at hn;refine zjw hZ true fun U hU gU sU=>?_;have gwU:=zd gwZ gU;have fU:=keepR gU fZ;refine cmo (zpy hU hl hs) ?_;rintro e V ⟨rfl,hV,gV⟩;have gwV:=zd gwU gV;exact fillR _ V (keepR gV fU) _ fun R fR gR=>⟨_,rfl,za fR,_,_,_,true,rfl,fun _=>hn.symm,fun h=>(by cases h),(zk3 hl _).2,keepS gR (by omega) hV,ze1 gwV gR (by omega)⟩
 have hc:jT s (zB s k)=true:=by
  have h1:(!jT s (zB s k))=false:=hc;simpa using h1
 refine⟨_,zb hZ.cells (i:=1) rfl,jk.enc ⟨4,[],zB s k⟩,rfl,zn (X:=Z) (v := .agg (jk.enc ⟨4,[],zB s k⟩).toArray) zjP rfl rfl rfl fun U hbU fU4 sU=>?_⟩;have fU4:U.heap[Z.heap.size]?=some (.cells (jk.enc ⟨4,[],zB s k⟩).toArray 175 (0,0)):=fU4;have hU:=hZ.below hbU;have gwU:=zfM gwZ hbU;have fU:=zc hbU fZ;have hzs:r<Z.heap.size:=hlt fZ;refine cmo (zix hU.cells) ?_;rintro e V ⟨rfl,hbV⟩;have hV:=hU.below hbV;have gwV:=zfM gwU hbV;have fV:=zc hbV fU;have fV4:=zc hbV fU4;refine DrawE.ord [17] [0,1,2,3,4,5,6,7,8,9,10,11,12,13,14,15,16,17] (by kernel_rfl) ?_;have hVd:ScV V.drew g s (zB s k) o:=hV;refine⟨_,zb hVd.cells (i:=1) rfl,(zB s k+1:Nat),(ze (by omega)).trans (by omega),_,zb hVd.cells (i:=0) rfl,zpQ ⟨Gb _ _,?_⟩⟩;have hmin:(if ((s.length:Nat):Int)<((zB s k+1:Nat):Int) then ((s.length:Nat):Int) else ((zB s k+1:Nat):Int))=((min (zB s k+1) s.length:Nat):Int):=by
  split <;> omega
 have e5:Value.int .i64 (if (((bs s).size:Nat):Int)<((zB s k+1:Nat):Int) then (((bs s).size:Nat):Int) else ((zB s k+1:Nat):Int))=i64 (min (zB s k+1) s.length:Nat):=by
  rw [show (bs s).size=s.length from rfl,hmin];rfl
 rw [e5];refine zeQ hVd (min (zB s k+1) s.length) fun R hR gR sR=>?_;have gwR:=zd (zd gwV (zf (Gb _ V).drew)) gR;have fR:=keepR gR (hdr fV);have fR4:R.heap[Z.heap.size]?=some (.cells (jk.enc ⟨4,[],zB s k⟩).toArray 175 (0,0)):=(gR.block _ (hlt (hdr fV4)) (fun e=>by simp only [Qa] at e;omega)).trans (hdr fV4);refine⟨_,zb (za hR) (i:=2) rfl,biE (fun ho=>?_) fun ho=>?_⟩
 ·have ho:o=true:=ho;subst ho;rw [zgt hc] at hn;refine zjw hR false fun T hT gT sT=>?_;have gwT:=zd gwR gT;have fT:=keepR gT fR;have fT4:T.heap[Z.heap.size]?=some (.cells (jk.enc ⟨4,[],zB s k⟩).toArray 175 (0,0)):=(gT.block _ (hlt fR4) (fun e=>by simp only [Qa] at e;omega)).trans fR4;exact⟨_,rfl,za fT4,hlt fT4,fillR ⟨4,[],zB s k⟩ T fT _ fun L fL gL=>⟨_,rfl,za fL,_,_,_,true,rfl,fun _=>hn.symm,fun h=>(by cases h),QC _ _,keepS gL (by omega) hT,ze1 gwT gL (by omega)⟩⟩
 ·have ho:o=false:=ho;subst ho;refine biE (fun h5=>?_) fun h5=>?_
  ·have h5:s.length<=zB s k:=dT h5;rw [zhI h5] at hn;exact⟨jk.enc zi4,rfl,fillR zi4 R fR _ fun L fL gL=>⟨_,rfl,za fL,_,_,_,false,rfl,fun h=>(by cases h),fun _=>hn.symm,QC _ _,keepS gL (by omega) hR,ze1 gwR gL (by omega)⟩⟩
  ·have h5:¬ s.length<=zB s k:=dF h5;have hl:zB s k<s.length:=by omega
   have h2:z7 s[zB s k]=2:=by rw [zci hl] at hc;exact dT hc
   rw [zhJ hl h2] at hn;have hmn:min (zB s k+1) s.length=zB s k+1:=Ua (by omega);obtain⟨f',rfl⟩:∃ f',f=f'+1:=⟨f-1,by omega⟩;exact⟨(f',min (zB s k+1) s.length,false),(cvE rfl rfl),⟨by show _<=f'+min _ _;omega,QC _ _,hn,hR,gwR,fR⟩,by show s.length-min _ _<s.length-k;omega⟩
def bOp (op:Bool):Nat:=if op then 1 else 0
theorem zkT {s:List UInt8} {f a a':Nat} {op op':Bool} {t:Tok} (h:j4 s (f+1) a op=some (t,a',op')) :
  (∃ hl:zB s a<s.length,t=zjc s (zB s a) s[zB s a]/\a'=zaG s (zB s a) s[zB s a]/\op'=true)\/(op=true/\t=⟨4,[],zB s a⟩/\a'=min (zB s a+1) s.length/\op'=false) \/
   (op=false/\zB s a<s.length/\j4 s f (min (zB s a+1) s.length) false=some (t,a',op')):=by
 by_cases hp:zB s a<s.length
 ·by_cases h2:z7 s[zB s a]=2
  ·cases op with
   | true =>
    rw [zgt (by rw [zci hp];exact Us h2)] at h;simp only [Qa,UF] at h;exact .inr (.inl ⟨rfl,h.1.symm,h.2.1.symm,h.2.2.symm⟩)
   | false =>
    rw [zhJ hp h2] at h;exact .inr (.inr ⟨rfl,hp,h⟩)
  ·rw [zjH hp h2] at h;simp only [Qa,UF] at h;exact .inl ⟨hp,h.1.symm,h.2.1.symm,h.2.2.symm⟩
 ·cases op with
  | true =>
   rw [zgt (zgX (by omega))] at h;simp only [Qa,UF] at h;exact .inr (.inl ⟨rfl,h.1.symm,h.2.1.symm,h.2.2.symm⟩)
  | false=>rw [zhI (by omega)] at h;cases h
theorem zcS {s:List UInt8} {t:Tok} {a':Nat} {op':Bool}:∀ {f a:Nat} {op:Bool},j4 s f a op=some (t,a',op')->a<=s.length ->
  a'<=s.length/\2*(s.length-a')+bOp op'<2*(s.length-a)+bOp op/\(t.kind=3->t.text≠[])/\t.text.length<=s.length
 | 0,_,_,h,_=>by cases h
 | f+1,a,op,h,ha=>by
  have hpa:=zlL (s:=s) (a:=a);have hpl:=zlK ha;rcases zkT h with ⟨hl,rfl,rfl,rfl⟩ | ⟨rfl,rfl,rfl,rfl⟩ | ⟨rfl,hl,h'⟩
  ·obtain⟨e1,e2⟩:=zk3 hl s[zB s a];refine⟨e2,?_,fun _=>?_,?_⟩
   ·have:bOp true=1:=rfl;omega
   ·intro he;have h1:((s.drop (zB s a)).take (zaG s (zB s a) s[zB s a]-zB s a)).length=0:=by
     have:(zjc s (zB s a) s[zB s a]).text=[]:=he;exact Gj List.length this
    rw [Qv,Qu] at h1;omega
   ·show ((s.drop (zB s a)).take _).length<=_;rw [Qv,Qu];omega
  ·refine⟨QC _ _,?_,fun h=>(by cases h),UZ _⟩;have h1:bOp true=1:=rfl;have h0:bOp false=0:=rfl;omega
  ·obtain⟨h1,h2,h3⟩:=zcS h' (QC _ _);refine⟨h1,?_,h3⟩;omega
theorem zhl {s:List UInt8} {f a a':Nat} {op op':Bool} {t:Tok} (h:j4 s (s.length+2) a op=some (t,a',op')):zb1 s (f+1) a op=t::zb1 s f a' op':=by
 show (match j4 s (s.length+2) a op with
  | some (t,a',op')=>t::zb1 s f a' op'
  | none=>[])=_
 rw [h]
theorem zhk {s:List UInt8} {f a:Nat} {op:Bool} (h:j4 s (s.length+2) a op=none):zb1 s (f+1) a op=[]:=by
 show (match j4 s (s.length+2) a op with
  | some (t,a',op')=>t::zb1 s f a' op'
  | none=>[])=_
 rw [h]
def StT (pre:List Tok) (vs:List Value) (_:Wd):Prop:=∃ t,pre.getLast?=some t/\vs=[.agg (jk.enc t).toArray,i64 (jw t)]
theorem znz {g:Nat} {w:Wd}:Calls PG 117 #[At0 g] w fun e w'=>e = .returned (.func (.func 152) #[] #[.pointer (some ⟨w.heap.size,0,none⟩)])/\w'=w.alloc (.cells #[At0 g] 228):=by
 refine zI 4 [At0 g] Tryz.func117 ?_;exact⟨rfl,rfl⟩
theorem zmq {g bx:Nat} {s:List UInt8} {W0:Wd} (h:ScV W0 g s 0 false) (hbx:W0.heap[bx]?=some (.cells #[At0 g] 228 (0,0))) (hne:bx≠g) (hs:s.length<=140737488351232) :
  zq4 PG 152 [At0 bx] (qP s) W0 (fun k=>k=bx) (fun k=>k=g) StT:=by
 intro yl Fp J Jx W hsz hrd hrf hJ hJx hy h0;have hbW:W.heap[bx]?=some (.cells #[At0 g] 228 (0,0)):=(hrd bx (.inl rfl)).trans hbx;have hgW:ScV W g s 0 false:=(hrd g (.inr rfl)).trans h;have hbs:bx<W0.heap.size:=hlt hbx;have hgs:g<W0.heap.size:=hlt h;refine zI 23 [.func (.yield yl) #[] #[],At0 bx] Tryz.func152 ?_
 let Inv:List Tok->Wd->Prop:=fun pre X=>J pre X/\W.heap.size<=X.heap.size/\X.heap[bx]?=some (.cells #[At0 g] 228 (0,0))/\¬ Fp X bx
 have stepG:∀ pre X Y,Inv pre X->X.grownBy Y (some g)->Inv pre Y/\∀ k,Fp Y k->Fp X k:=fun pre X Y ⟨h1,h2,h3,h4⟩ hg=>by
  have hst:StepO W.heap.size (fun k=>k=g) Fp X Y:=⟨hg.os,hg.tape,hg.output,hg.size,fun k hk hf=>hg.block k hk (fun e=>by
   have e:g=k:=(by simpa using e:k=g).symm;rcases hf with hf | hf
   ·exact hf.2 e.symm
   ·exact (hJ.lt _ _ _ h1 hf).2 e.symm)⟩
  obtain⟨j1,j2⟩:=hJ.step _ _ _ h1 hst;refine⟨⟨j1,UM h2 hg.size,(hg.block _ (hlt h3) (fun e=>hne (by simpa using e))).trans h3,fun hf=>h4 (j2 _ hf)⟩,j2⟩
 have stepB:∀ pre X Y,Inv pre X->Bw X Y->Inv pre Y/\∀ k,Fp Y k->Fp X k:=fun pre X Y hI hb=>stepG pre X Y hI (zf hb);have I0:Inv [] W:=⟨h0,UW _,hbW,hrf bx rfl⟩;refine⟨_,zb (za hbW) (i:=0) rfl,cmo (zod hgW (UZ _) hs) ?_⟩;rintro e Y ⟨t,a,op,ok,rfl,hok,hno,ha,hY,gY⟩;obtain⟨I1,_⟩:=stepG [] W Y I0 gY;refine zn (X:=Y) (v := .agg (jk.enc t).toArray) zjP rfl rfl rfl fun Z hbZ fZ sZ=>?_;have fZ:Z.heap[Y.heap.size]?=some (.cells (jk.enc t).toArray 175 (0,0)):=fZ;obtain⟨I2,q2⟩:=stepB [] Y Z I1 hbZ;refine⟨List Tok×Nat×Nat×Bool×Bool×Tok×Nat,fun q=>⟨[(0,.func (.yield yl) #[] #[]),(1,At0 bx),(3,.pointer (some ⟨q.2.2.2.2.2.2,0,none⟩)),(4,.bool q.2.2.2.2.1)],[]⟩,
  fun q X=>Inv q.1 X/\(q.2.2.2.2.1=true->qP s=q.1++q.2.2.2.2.2.1::zb1 s q.2.1 q.2.2.1 q.2.2.2.1)/\(q.2.2.2.2.1=false->qP s=q.1)/\(q.2.2.2.2.1=true->2*(s.length-q.2.2.1)+bOp q.2.2.2.1<q.2.1)/\q.2.2.1<=s.length/\ScV X g s q.2.2.1 q.2.2.2.1 /\
   X.heap[q.2.2.2.2.2.2]?=some (.cells (jk.enc q.2.2.2.2.2.1).toArray 175 (0,0))/\W.heap.size<=q.2.2.2.2.2.2/\¬ Fp X q.2.2.2.2.2.2/\(q.2.2.2.2.1=true->(q.2.2.2.2.2.1.kind=3->q.2.2.2.2.2.1.text≠[])/\q.2.2.2.2.2.1.text.length<=s.length),
  fun q=>q.2.1,([],2*s.length+2,a,op,ok,t,Y.heap.size),(cvE rfl rfl),⟨I2,?_,?_,?_,ha,hY.below hbZ,fZ,gY.size,?_,?_⟩,?_⟩
 ·intro h1;exact zhl (hok h1)
 ·intro h1;exact zhk (hno h1)
 ·intro h3;have:=(zcS (hok h3) (UZ _)).2.1;have h0:bOp false=0:=rfl;dsimp only;omega
 ·intro hf;have h9:Y.heap.size<Y.heap.size:=(hJ.lt _ _ _ I1.1 (q2 _ hf)).1;omega
 ·intro h1;exact (zcS (hok h1) (UZ _)).2.2
 clear I2 q2 fZ hbZ sZ I1 gY hY hok hno ha;rintro⟨pre,f,a,op,ok,t,tb⟩ X ⟨hI,h1,h2,hf,ha,hX,ft,htb,hft,hgd⟩;dsimp only at hI h1 h2 hf ha hX ft htb hft hgd ⊢;refine biE (fun hok=>?_) fun hok=>?_
 ·have hok:ok=true:=hok;subst hok;have h1:=h1 rfl;have hf:=hf rfl;obtain⟨g1,g2⟩:=hgd rfl;have hpre:(pre++[t]) <+: qP s:=⟨zb1 s f a op,by rw [h1];simp⟩;refine DrawE.ord [4] [0,1,2,3,4,5] (by kernel_rfl) ⟨_,rfl,za (hdr ft),hlt (hdr ft),_,rfl,za (hdr ft),hlt (hdr ft),cmo (zp6 t g1 (by omega) X.drew) ?_⟩;rintro e U ⟨rfl,hbU⟩;refine⟨hbU,?_⟩;have hXU:Bw X U:=(Gb _ X).drew.trans hbU;obtain⟨IU,qU⟩:=stepB pre X U hI hXU;have fU:=zc hXU ft;have hU:=hX.below hXU;have hftU:¬ Fp U tb:=fun h=>hft (qU _ h);refine YieldR.mono (hy pre t _ U IU.1 ⟨t,by simp,rfl⟩ hpre) ?_;rintro v V (⟨rfl,hJV,hKV⟩ | ⟨rfl,hJV⟩)
  ·refine Gg (fun h=>by cases h) (fun _=>?_);have IU':=IU;obtain⟨_,iu2,iu3,iu4⟩:=IU';have hUs:=hKV.size;have hgF:¬ Fp U g:=fun h=>(hJ.lt _ _ _ IU.1 h).2 rfl;have hbV:V.heap[bx]?=_:=(hKV.same bx (hlt iu3) iu4).trans iu3;have hV:ScV V g s a op:=(hKV.same g (hlt hU) hgF).trans hU;have fV:=(hKV.same tb (hlt fU) hftU).trans fU;have nF:∀ k,k<U.heap.size->¬ Fp U k->¬ Fp V k:=fun k hk h1 h2=>by
    rcases hKV.fp k h2 with h3 | h3
    ·exact h1 h3
    ·omega
   have IV:Inv (pre++[t]) V:=⟨hJV,by omega,hbV,nF bx (hlt iu3) iu4⟩;refine⟨_,rfl,za fV,hlt fV,zn (X:=V) (v := .agg (jk.enc t).toArray) zjP rfl rfl rfl fun R hbR fR sR=>?_⟩;have fR:R.heap[V.heap.size]?=some (.cells (jk.enc t).toArray 175 (0,0)):=fR;obtain⟨IR,qR⟩:=stepB (pre++[t]) V R IV hbR;have hnR:¬ Fp R V.heap.size:=fun h=>by have:=(hJ.lt _ _ _ IV.1 (qR _ h)).1;omega
   refine⟨_,zb (za IR.2.2.1) (i:=0) rfl,cmo (zod (hV.below hbR) ha hs) ?_⟩;rintro e L ⟨t',a',op',ok',rfl,hok',hno',ha',hL,gL⟩;obtain⟨IL,qL⟩:=stepG (pre++[t]) R L IR gL;have hVs:W.heap.size<=V.heap.size:=IV.2.1;have hgV:g≠V.heap.size:=by omega
   have hbV2:bx≠V.heap.size:=by omega
   have fL:L.heap[V.heap.size]?=some (.cells (jk.enc t).toArray 175 (0,0)):=(gL.block _ (hlt fR) (fun e=>hgV (by simpa using e.symm))).trans fR;refine zE (v := .agg (jk.enc t').toArray) zjP fL rfl rfl rfl ?_;obtain⟨f',rfl⟩:∃ f',f=f'+1:=⟨f-1,by omega⟩;have hnL:¬ Fp L V.heap.size:=fun h=>hnR (qL _ h);have hst:StepO W.heap.size (fun k=>k=g) Fp L (L.setRow V.heap.size (Value.agg (jk.enc t').toArray).cells):=⟨rfl,rfl,rfl,by simp,fun k hk hf=>zr (fun e=>by
    subst e;rcases hf with hf | hf
    ·omega
    ·exact hnL hf)⟩
   obtain⟨j1,j2⟩:=hJ.step _ _ _ IL.1 hst;refine⟨(pre++[t],f',a',op',ok',t',V.heap.size),(cvE rfl rfl),⟨⟨j1,by simp;exact IL.2.1,(zr hbV2).trans IL.2.2.1,fun h=>IL.2.2.2 (j2 _ h)⟩,?_,?_,?_,ha',(zr hgV).trans hL,zx fL,hVs,fun h=>hnL (j2 _ h),?_⟩,by show f'<f'+1;omega⟩
   ·intro h3;rw [h1];show pre++t::zb1 s (f'+1) a op=(pre++[t])++_;rw [zhl (hok' h3)];simp
   ·intro h3;rw [h1];show pre++t::zb1 s (f'+1) a op=pre++[t];rw [zhk (hno' h3)]
   ·intro h3;have:=(zcS (hok' h3) ha).2.1;dsimp only;omega
   ·intro h3;exact (zcS (hok' h3) ha).2.2
  ·exact Gg (fun _=>Gg ⟨_,rfl⟩ (.inr ⟨_,hpre,hJV⟩)) (fun h=>by cases h)
 ·have hok:ok=false:=hok;subst hok;have h2:=h2 rfl;exact⟨⟨_,rfl⟩,.inl (by rw [h2];exact hI.1)⟩
def zcU (s:List UInt8):Bool:=decide (s.length<=16384)&&(qP s).all (fun t=>decide (jw t=0))
theorem zjb {s:List UInt8}:∀ {f a:Nat} {op:Bool},(zb1 s f a op).length<=f
 | 0,_,_=>UW _
 | f+1,a,op=>by
  unfold zb1
  split
  ·exact Nat.succ_le_succ zjb
  ·exact UZ _
def FpX (L:Nat) (X:Wd) (k:Nat):Prop:=k=L\/k=L+1\/k=L+2\/∃ a n cap,X.heap[L]?=some (.cells #[.slice (some a) n cap] 170 (0,0))/\k=a.block
structure ResX (L:Nat) (X:Wd) (v:Value) (pl er:Int):Prop where
 l:X.heap[L]?=some (.cells #[v] 170 (0,0))
 p:X.heap[L+1]?=some (.cells #[i64 pl] 3 (0,0))
 e:X.heap[L+2]?=some (.cells #[i64 er] 34 (0,0))
def JX (w:Wd) (L B:Nat) (pre:List Tok) (X:Wd):Prop:=Bw w X/\(∀ t∈pre,jw t=0)/\∃ p cap,ResX L X (.slice p pre.length cap) 0 0/\OwnS jk 175 B X p cap pre
def JxX (w:Wd) (L:Nat) (pre:List Tok) (X:Wd):Prop:=Bw w X/\(∃ t∈pre,jw t≠0)/\∃ pl er,ResX L X (.slice none 0 0) pl er/\er≠0
theorem FpX.row {L:Nat} {X:Wd} {p:OA} {n cap:Nat} {pl er:Int} (h:ResX L X (.slice p n cap) pl er) {k:Nat} (hf:FpX L X k):k=L\/k=L+1\/k=L+2\/∃ a,p=some a/\k=a.block:=by
 rcases hf with hf | hf | hf | ⟨a,n',cap',h1,h2⟩
 ·exact .inl hf
 ·exact .inr (.inl hf)
 ·exact .inr (.inr (.inl hf))
 ·have:=h.l;rw [h1] at this;simp at this;exact .inr (.inr (.inr ⟨a,this.1.symm,h2⟩))
theorem ResX.same {L:Nat} {A B:Wd} {v:Value} {pl er:Int} (h:ResX L A v pl er) (hs:∀ k,k=L\/k=L+1\/k=L+2->B.heap[k]?=A.heap[k]?):ResX L B v pl er :=
 ⟨(hs L (.inl rfl)).trans h.l,(hs _ (.inr (.inl rfl))).trans h.p,(hs _ (.inr (.inr rfl))).trans h.e⟩
theorem JX.iter {w:Wd} {L B n0 g:Nat} (hw:w.heap.size<=L) (hL:L+2<g) (hg:g<n0) (hB:B=n0):IterJO n0 (fun k=>k=g) (FpX L) (JX w L B):=by
 subst hB;refine⟨fun pre A C ⟨hb,hf,p,cap,hr,ho⟩ hs=>?_,fun pre A k ⟨hb,hf,p,cap,hr,ho⟩ hk=>?_⟩
 ·have hr':ResX L C (.slice p pre.length cap) 0 0:=hr.same fun k hk=>hs.same k (by rcases hk with rfl | rfl | rfl;exact hlt hr.l;exact hlt hr.p;exact hlt hr.e) (.inl ⟨by omega,by omega⟩);have zdt:∀ a,p=some a->C.heap[a.block]?=A.heap[a.block]?:=fun a ha=>by
   rcases ho.inv with ⟨rfl,_⟩ | ⟨g',cur,rfl,_,hg',_⟩
   ·cases ha
   ·cases ha
    exact hs.same _ (hlt hg') (.inr (.inr (.inr (.inr ⟨_,_,_,hr.l,rfl⟩))))
  refine⟨⟨⟨hs.os.trans hb.os,hs.tape.trans hb.tape,hs.output.trans hb.output,UM hb.size hs.size,fun k hk=>(hs.same k (nL hk hb.size) (.inl ⟨by omega,by omega⟩)).trans (hb.block k hk)⟩,hf,p,cap,hr',ho.same zdt⟩,fun k hk=>?_⟩;rcases FpX.row hr' hk with rfl | rfl | rfl | ⟨a,rfl,rfl⟩
  ·exact .inl rfl
  ·exact .inr (.inl rfl)
  ·exact .inr (.inr (.inl rfl))
  ·exact .inr (.inr (.inr ⟨_,_,_,hr.l,rfl⟩))
 ·rcases FpX.row hr hk with rfl | rfl | rfl | ⟨a,rfl,rfl⟩
  ·exact⟨hlt hr.l,by omega⟩
  ·exact⟨hlt hr.p,by omega⟩
  ·exact⟨hlt hr.e,by omega⟩
  ·rcases ho.inv with ⟨h,_⟩ | ⟨g',cur,h,hB,hg',_⟩
   ·cases h
   ·cases h
    exact⟨hlt hg',by show ¬ g'=g;omega⟩
theorem JxX.iter {w:Wd} {L n0 g:Nat} (hw:w.heap.size<=L) (hL:L+2<g) (hg:g<n0):IterJO n0 (fun k=>k=g) (FpX L) (JxX w L):=by
 refine⟨fun pre A C ⟨hb,hf,pl,er,hr,he⟩ hs=>?_,fun pre A k ⟨hb,hf,pl,er,hr,he⟩ hk=>?_⟩
 ·have hr':ResX L C (.slice none 0 0) pl er:=hr.same fun k hk=>hs.same k (by rcases hk with rfl | rfl | rfl;exact hlt hr.l;exact hlt hr.p;exact hlt hr.e) (.inl ⟨by omega,by omega⟩);refine⟨⟨⟨hs.os.trans hb.os,hs.tape.trans hb.tape,hs.output.trans hb.output,UM hb.size hs.size,fun k hk=>(hs.same k (nL hk hb.size) (.inl ⟨by omega,by omega⟩)).trans (hb.block k hk)⟩,hf,pl,er,hr',he⟩,fun k hk=>?_⟩;rcases FpX.row hr' hk with rfl | rfl | rfl | ⟨a,h,_⟩
  ·exact .inl rfl
  ·exact .inr (.inl rfl)
  ·exact .inr (.inr (.inl rfl))
  ·cases h
 ·rcases FpX.row hr hk with rfl | rfl | rfl | ⟨a,h,_⟩
  ·exact⟨hlt hr.l,by omega⟩
  ·exact⟨hlt hr.p,by omega⟩
  ·exact⟨hlt hr.e,by omega⟩
  ·cases h
abbrev nl0:Value := .slice none 0 0
theorem zsK (s:List UInt8) (hs:s.length<=140737488351232) (w:Wd) :
  Calls PG 88 #[qk s] w fun e w'=>∃ p cap n pl er,e = .returned (.tuple #[.slice p n cap,i64 pl,i64 er])/\(zcU s=true->er=0/\n=(qP s).length/\SlR jk w' p (qP s))/\(zcU s=false->er≠0)/\Bw w w':=by
 refine je 27 [qk s] (.c .p (.c .p .p)) Tryz.func88 ?_;obtain⟨L,hL⟩:=nm (w.heap.size);have z1:(w.alloc (.cells #[nl0] 170)).heap.size=L+1:=by rw [wz,hL]
 have z2:((w.alloc (.cells #[nl0] 170)).alloc (.cells #[i64 0] 3)).heap.size=L+2:=by rw [wz,z1]
 obtain⟨W0,hW0⟩:=nm (((w.alloc (.cells #[nl0] 170)).alloc (.cells #[i64 0] 3)).alloc (.cells #[i64 0] 34));have hb0:Bw w W0:=by rw [hW0];exact (((zba _ _)).alloc (by simp) _).alloc (by rw [z2];omega) _
 have hs0:W0.heap.size=L+3:=by rw [hW0,wz,z2]
 have r0:ResX L W0 nl0 0 0:=by
  rw [hW0];refine⟨?_,?_,?_⟩
  ·rw [hL];exact qF _ (qF _ (zz w _))
  ·rw [<- z1];exact qF _ (zz _ _)
  ·rw [<- z2];exact zz _ _
 have p1:some (Value.pointer (some ⟨(w.alloc (.cells #[nl0] 170)).heap.size,0,none⟩))=some (At0 (L+1)):=by rw [z1]
 have p2:some (Value.pointer (some ⟨((w.alloc (.cells #[nl0] 170)).alloc (.cells #[i64 0] 3)).heap.size,0,none⟩))=some (At0 (L+2)):=by rw [z2]
 have put3:∀ (X:Wd) (v0:Value) (a0 b0:Int),ResX L X v0 a0 b0->∀ (pl er:Int) (K:Wd->Prop),(∀ Y,ResX L Y (.slice none 0 0) pl er->Below w.heap.size X Y->X.heap.size=Y.heap.size->(∀ k,k≠L->k≠L+1->k≠L+2->Y.heap[k]?=X.heap[k]?)->K Y) ->
   SatR ((storeVar 170 ⟨L,0,none⟩ (.slice none 0 0)).run PG X) fun _ Y1=>SatR ((storeVar 3 ⟨L+1,0,none⟩ (i64 pl)).run PG Y1) fun _ Y2=>SatR ((storeVar 34 ⟨L+2,0,none⟩ (i64 er)).run PG Y2) fun _ Y3=>K Y3:=by
  intro X v0 a0 b0 hr pl er K k;refine zE (v := .slice none 0 0) zpW hr.l rfl rfl rfl ?_;have q1:(X.setRow L (Value.slice none 0 0).cells).heap[L+1]?=some (.cells #[i64 a0] 3 (0,0)):=(zr (by omega)).trans hr.p;refine zE (v:=i64 pl) k3 q1 rfl rfl rfl ?_;have q2:((X.setRow L (Value.slice none 0 0).cells).setRow (L+1) (i64 pl).cells).heap[L+2]?=some (.cells #[i64 b0] 34 (0,0)):=(zr (by omega)).trans ((zr (by omega)).trans hr.e);refine zE (v:=i64 er) k34 q2 rfl rfl rfl (k _ ⟨?_,?_,zx q2⟩ ?_ (by simp) ?_)
  ·exact (zr (by omega)).trans ((zr (by omega)).trans (zx hr.l))
  ·exact (zr (by omega)).trans (zx q1)
  ·exact zy (zy (zy (Gb _ X) (by omega) _) (by omega) _) (by omega) _
  ·intro k h1 h2 h3;exact (zr h3).trans ((zr h2).trans (zr h1))
 refine⟨Unit,fun _=>⟨[(0,qk s),(2,At0 L),(3,At0 (L+1)),(4,At0 (L+2))],[]⟩,fun _ X=>W0=X,?_,?_⟩
 ·exact⟨(),⟨.cons rfl (.cons (by rw [hL];rfl) (.cons p1 (.cons p2 .nil))),rfl⟩,hW0⟩
 clear hW0 p1 p2 z1 z2;rintro _ _ rfl;refine⟨Unit,fun _=>⟨[(0,qk s),(2,At0 L),(3,At0 (L+1)),(4,At0 (L+2))],[]⟩,fun _ X=>s.length<=16384/\W0=X,?_,?_⟩
 ·refine biE (fun h=>?_) fun h=>?_
  ·have h:(16384:Int)<(s.length:Int):=dT h;have hno:zcU s=false:=by unfold zcU;rw [Uh (by omega)];rfl
   exact put3 W0 _ _ _ r0 0 3 _ fun Y hY hb hsz _=>⟨_,zb (za hY.l) (i:=0) rfl,_,zb (za hY.p) (i:=0) rfl,_,zb (za hY.e) (i:=0) rfl,none,0,0,0,3,rfl,fun h=>(by rw [hno] at h;cases h),fun _=>by decide,hb0.trans hb⟩
  ·have h:¬ (16384:Int)<(s.length:Int):=dF h;exact⟨(),(cvE rfl rfl),by omega,rfl⟩
 rintro _ _ ⟨hln,rfl⟩;refine⟨[qk s,i64 0],rfl,[qk s,i64 0,.bool false],rfl,zn (X:=W0) (v := .agg #[qk s,i64 0,.bool false]) zsX rfl rfl rfl fun V hbV fV sV=>?_⟩;have hV:ScV V W0.heap.size s 0 false:=fV;refine cmo znz ?_;rintro e W1 ⟨rfl,hW1⟩;have sW1:W1.heap.size=W0.heap.size+2:=by rw [hW1,wz,sV]
 have hb1:Bw V W1:=by rw [hW1];exact (zba _ _)
 have hbx:W1.heap[W0.heap.size+1]?=some (.cells #[.pointer (some ⟨W0.heap.size,0,none⟩)] 228 (0,0)):=by
  rw [hW1,<- sV];exact zz V _
 have hg1:ScV W1 W0.heap.size s 0 false:=hV.below hb1;have hb01:Bw W0 W1:=zst hbV hb1;have hbw1:Bw w W1:=zst hb0 hb01;have r1:ResX L W1 nl0 0 0:=r0.same fun k hk=>hb01.block k (by omega);have hlen:(qP s).length<=40000:=UM zjb (by omega);have hok1:(∀ t∈qP s,jw t=0)->zcU s=true:=fun h=>by
  unfold zcU;rw [Us hln,Uy,Qk];exact fun t ht=>Us (h t ht)
 have hok2:(∃ t∈qP s,jw t≠0)->zcU s=false:=fun ⟨t,ht,hf⟩=>by
  unfold zcU;rw [Us hln,Uy,KN];exact⟨t,ht,by simpa using hf⟩
 rw [sV];refine zri (zbc _) rfl (lb := #[.pointer (some ⟨W0.heap.size+1,0,none⟩)]) rfl rfl (zmq hg1 hbx (by omega) hs) (UW _) (fun k hk=>⟨by rcases hk with rfl | rfl <;> omega,rfl⟩) (fun pre vs W ⟨t,_,h⟩=>by rw [h];rfl) (by decide)
  (FpX L) (JX w L W1.heap.size) (fun ex pre X=>ex = .ret/\JxX w L pre X) ?_ (JX.iter (by omega) (by omega) (by omega) rfl) (fun ex=>?_) ?_ ?_ ?_ ?_
 ·intro k hk hf;rcases FpX.row r1 hf with h | h | h | ⟨a,h,_⟩
  ·omega
  ·omega
  ·omega
  ·cases h
 ·have hJ:=JxX.iter (w:=w) (L:=L) (n0:=W1.heap.size) (g:=W0.heap.size) (by omega) (by omega) (by omega);exact⟨fun pre A C ⟨h1,h2⟩ hs=>⟨⟨h1,(hJ.step _ _ _ h2 hs).1⟩,(hJ.step _ _ _ h2 hs).2⟩,fun pre A k ⟨_,h2⟩ hf=>hJ.lt _ _ _ h2 hf⟩
 ·exact⟨hbw1,fun t ht=>(by cases ht),none,0,r1,.nil⟩
 ·intro yl pre x vs W hyl hpre hJ hst hfy hly;obtain⟨t,ht,rfl⟩:=hst;have ht:t=x:=by simpa using ht.symm
  subst ht;have hIt:=JX.iter (w:=w) (L:=L) (B:=W1.heap.size) (n0:=W1.heap.size) (g:=W0.heap.size) (by omega) (by omega) (by omega) rfl;refine zn (X:=W) (v := .agg (jk.enc t).toArray) zjP rfl rfl rfl fun R hbR fR sR=>?_;have fR:R.heap[W.heap.size]?=some (.cells (jk.enc t).toArray 175 (0,0)):=fR;obtain⟨jR,qR⟩:=hIt.step pre W R hJ (Step.of_below hbR).o;refine⟨rfl,Keeps.of_below hbR (fun k hk => .inl (qR k hk)),jR,?_⟩;rintro o W2 hW2 ⟨hbW,hfl,p,cap,hr,ho⟩ hF2;have f2:W2.heap[W.heap.size]?=some (.cells (jk.enc t).toArray 175 (0,0)):=by rw [hW2,zg (by omega)];exact fR
  have s2:W2.heap.size=R.heap.size:=by rw [hW2];simp [World.putObj]
  have hLW:W1.heap.size<=W.heap.size:=by
   have:=hlt hr.l;obtain⟨hbW',_⟩:=hJ;omega
  refine biE (fun h=>?_) fun h=>?_
  ·have h:jw t≠0:=by
    have h1:(!decide (jw t=0))=true:=h;simpa using h1
   have hrd:ResX L W2.drew (.slice p pre.length cap) 0 0:=⟨hr.l,hr.p,hr.e⟩;have hd:W2.drew.heap.size=W2.heap.size:=rfl;have fin:∀ Y,ResX L Y (.slice none 0 0) t.pos (jw t)->Below w.heap.size W2.drew Y->W2.drew.heap.size=Y.heap.size->(∀ k,k≠L->k≠L+1->k≠L+2->Y.heap[k]?=W2.drew.heap[k]?)->(Exit.ret=Exit.ret/\JxX w L (pre++[t]) Y)/\Keeps (FpX L) W2 Y:=fun Y hY hbY hsY hoY=>by
    have hbY2:Bw w Y:=hbW.trans ((Gb w.heap.size W2).drew.trans hbY);refine⟨⟨rfl,hbY2,⟨t,by simp,h⟩,_,_,hY,h⟩,hbY.os,hbY.tape,hbY.output,by rw [<- hsY,hd];exact UW _,fun k hk hf=>hoY k (fun e=>hf (.inl e)) (fun e=>hf (.inr (.inl e))) (fun e=>hf (.inr (.inr (.inl e)))),fun k hk=>?_⟩;rcases FpX.row hY hk with h1 | h1 | h1 | ⟨a,h1,_⟩
    ·exact .inl (.inl h1)
    ·exact .inl (.inr (.inl h1))
    ·exact .inl (.inr (.inr (.inl h1)))
    ·cases h1
   refine DrawE.treeQ [3,4,5] (.op 0 (.op 2 (.alt (.op 3 (.op 1 (.op 4 (.op 5 .nil)))) (.op 1 (.op 3 (.op 4 (.op 5 .nil))))))) (by kernel_rfl) (Gg ?_ ?_)
   ·refine zE (v := .slice none 0 0) zpW hrd.l rfl rfl rfl ?_;have q0:(W2.drew.setRow L (Value.slice none 0 0).cells).heap[W.heap.size]?=some (.cells (jk.enc t).toArray 175 (0,0)):=(zr (by omega)).trans (hdr f2);refine⟨_,zb (za q0) (i:=2) rfl,?_⟩;have q1:(W2.drew.setRow L (Value.slice none 0 0).cells).heap[L+1]?=some (.cells #[i64 0] 3 (0,0)):=(zr (by omega)).trans hrd.p;refine zE (v:=i64 t.pos) k3 q1 rfl rfl rfl ?_;have q2:((W2.drew.setRow L (Value.slice none 0 0).cells).setRow (L+1) (i64 t.pos).cells).heap[L+2]?=some (.cells #[i64 0] 34 (0,0)):=(zr (by omega)).trans ((zr (by omega)).trans hrd.e);refine zE (v:=i64 (jw t)) k34 q2 rfl rfl rfl (fin _ ⟨?_,?_,zx q2⟩ ?_ (by simp) ?_)
    ·exact (zr (by omega)).trans ((zr (by omega)).trans (zx hrd.l))
    ·exact (zr (by omega)).trans (zx q1)
    ·exact zy (zy (zy (Gb _ W2.drew) (by omega) _) (by omega) _) (by omega) _
    ·intro k h1 h2 h3;exact (zr h3).trans ((zr h2).trans (zr h1))
   ·exact⟨_,zb (za (hdr f2)) (i:=2) rfl,put3 W2.drew _ _ _ hrd t.pos (jw t) _ fin⟩
  ·have h:jw t=0:=by
    have h1:(!decide (jw t=0))=false:=h;simpa using h1
   refine⟨_,zb (za hr.l) (i:=0) rfl,_,rfl,za f2,hlt f2,⟨by decide,by decide,rfl⟩,jk.enc t,zaB (jk.len t) rfl,?_⟩;have hpl:pre.length+1<=40000:=by
    have:=hpre.length_le;simp at this;omega
   refine js (E:=jk) (news:=[t]) (B:=W1.heap.size) Tryz.underlying170 zjP rfl rfl rfl (ho.alloc _) rfl (qE jk t) (by simp;omega) (by show pre.length+1<=_;omega) (by show (pre.length+1)*32<=_;omega) ?_;intro p3 cap3 W4 ho4 hg4 hb4 hat;have hL2:L<W2.heap.size:=hlt hr.l;have hr3:ResX L (W2.alloc (.cells (jk.enc t).toArray 175)) (.slice p pre.length cap) 0 0:=⟨qF _ hr.l,qF _ hr.p,qF _ hr.e⟩;have hr4:ResX L W4 (.slice p pre.length cap) 0 0:=hr3.same fun k hk=>hb4.block k (by omega);refine zE (v := .slice p3 (pre++[t]).length cap3) zpW hr4.l rfl rfl rfl ?_;have hr5:ResX L (W4.setRow L (Value.slice p3 (pre++[t]).length cap3).cells) (.slice p3 (pre++[t]).length cap3) 0 0:=⟨zx hr4.l,(zr (by omega)).trans hr4.p,(zr (by omega)).trans hr4.e⟩;have hbB:Below w.heap.size W2 (W4.setRow L (Value.slice p3 (pre++[t]).length cap3).cells) :=
    zy (((Gb _ W2).alloc (by omega) _).trans (hb4.mono (by omega))) (by omega) _
   refine Gg ⟨hbW.trans hbB,fun u hu=>?_,p3,cap3,hr5,ho4.same fun a ha=>?_⟩ ⟨hbB.os,hbB.tape,hbB.output,hbB.size,fun k hk hf=>?_,fun k hk=>?_⟩
   ·rcases QS.1 hu with hu | hu
    ·exact hfl u hu
    ·simp only [KB] at hu;rw [hu];exact h
   ·refine zr ?_;rcases ho4.inv with ⟨h1,_⟩ | ⟨g',_,h1,h2,_⟩
    ·rw [h1] at ha;cases ha
    ·rw [h1] at ha;cases ha;dsimp only;omega
   ·have h1:k≠L:=fun e=>hf (.inl e);rw [zr h1];refine (hg4.block k (by simp;omega) ?_).trans ?_
    ·intro e
     cases p with
     | none=>simp [Value.ownBlock] at e
     | some a =>
      simp only [Value.ownBlock,Qa] at e;exact hf (.inr (.inr (.inr ⟨a,_,_,hr.l,e⟩)))
    ·show (W2.heap.push _)[k]?=_;rw [Array.getElem?_push,Gn (Nat.ne_of_lt hk)]
   ·rcases FpX.row hr5 hk with h1 | h1 | h1 | ⟨a,ha,rfl⟩
    ·exact .inl (.inl h1)
    ·exact .inl (.inr (.inl h1))
    ·exact .inl (.inr (.inr (.inl h1)))
    ·rcases hat a ha with h1 | h1
     ·exact .inl (.inr (.inr (.inr ⟨a,_,_,h1▸hr.l,rfl⟩)))
     ·refine .inr ?_;rw [h1];simp
 ·intro D W hD hfD hJ hdef;obtain⟨hbW,hfl,p,cap,hr,ho⟩:=hJ;refine⟨_,zb (za hr.l) (i:=0) rfl,zE (v := .slice p (qP s).length cap) zpW hr.l rfl rfl rfl ?_⟩;have q1:(W.setRow L (Value.slice p (qP s).length cap).cells).heap[L+1]?=some (.cells #[i64 0] 3 (0,0)):=(zr (by omega)).trans hr.p;refine zE (v:=i64 0) k3 q1 rfl rfl rfl ?_;have q2:((W.setRow L (Value.slice p (qP s).length cap).cells).setRow (L+1) (i64 0).cells).heap[L+2]?=some (.cells #[i64 0] 34 (0,0)):=(zr (by omega)).trans ((zr (by omega)).trans hr.e);refine zE (v:=i64 0) k34 q2 rfl rfl rfl ?_;obtain⟨S,hS⟩:=nm (((W.setRow L (Value.slice p (qP s).length cap).cells).setRow (L+1) (i64 0).cells).setRow (L+2) (i64 0).cells);have rS:ResX L S (.slice p (qP s).length cap) 0 0:=by
   rw [hS];exact⟨(zr (by omega)).trans ((zr (by omega)).trans (zx hr.l)),(zr (by omega)).trans (zx q1),zx q2⟩
  have bS:Below w.heap.size W S:=by rw [hS];exact zy (zy (zy (Gb _ W) (by omega) _) (by omega) _) (by omega) _
  have oS:∀ k,k≠L->k≠L+1->k≠L+2->S.heap[k]?=W.heap[k]?:=fun k h1 h2 h3=>by rw [hS];exact (zr h3).trans ((zr h2).trans (zr h1))
  have dS:S.heap[D]?=some (.deferred (some [])):=(oS D (by omega) (by omega) (by omega)).trans hdef;rw [<- hS];refine⟨_,rfl,dS,?_⟩;have rP:ResX L (S.putObj D (.deferred none)) (.slice p (qP s).length cap) 0 0:=rS.same fun k hk=>zg (by omega);refine⟨_,zb (za rP.l) (i:=0) rfl,_,zb (za rP.p) (i:=0) rfl,_,zb (za rP.e) (i:=0) rfl,p,cap,(qP s).length,0,0,rfl,fun _=>⟨rfl,rfl,?_⟩,fun h=>?_,qO (hbW.trans bS) (by omega) _⟩
  ·exact (ho.same fun a ha=>by
    have hne:a.block≠L/\a.block≠L+1/\a.block≠L+2/\a.block≠D:=by
     rcases ho.inv with ⟨h1,_⟩ | ⟨g',_,h1,h2,h3,_⟩
     ·rw [h1] at ha;cases ha
     ·rw [h1] at ha;cases ha;refine⟨by dsimp only;omega,by dsimp only;omega,by dsimp only;omega,fun e=>?_⟩;have e:g'=D:=e;rw [e,hdef] at h3;cases h3
    exact (zg hne.2.2.2).trans (oS _ hne.1 hne.2.1 hne.2.2.1)).row
  ·rw [hok1 hfl] at h;cases h
 ·rintro D ex pre W hD hfD hpre ⟨rfl,hbW,⟨t,ht,hft⟩,pl,er,hr,her⟩ hdef;refine⟨_,rfl,hdef,?_⟩;have rP:ResX L (W.putObj D (.deferred none)) (.slice none 0 0) pl er:=hr.same fun k hk=>zg (by omega);refine⟨_,zb (za rP.l) (i:=0) rfl,_,zb (za rP.p) (i:=0) rfl,_,zb (za rP.e) (i:=0) rfl,none,0,0,pl,er,rfl,fun h=>?_,fun _=>her,qO hbW (by omega) _⟩;rw [hok2 ⟨t,hpre.subset ht,hft⟩] at h;cases h
theorem zot (s:List UInt8) (hs:s.length<=140737488351232) (w:Wd):CB 60 #[qk s] w (.bool (zde s)):=by
 refine zI 34 [qk s] Tryz.func60 ?_;have hdef:zde s=(zcU s&&zny (qP s) s):=by
  unfold zde zcU;rw [Bool.and_assoc]
 refine cmo (zsK s hs w) ?_;rintro e V ⟨p,cap,n,pl,er,rfl,h1,h2,hb⟩
 cases hk:zcU s with
 | false =>
  have her:=h2 hk;rw [hdef,hk,Uj];exact brN (by exact Uh her) (brF (brF ⟨rfl,hb⟩))
 | true =>
  obtain⟨rfl,rfl,hr⟩:=h1 hk;rw [hdef,hk,Uy];refine brT (biE (fun h=>?_) fun h=>?_)
  ·have h:(qP s).length=2:=by have h:((qP s).length:Int)=2:=dT h;omega
   match hx:qP s,h with
   | [t,u],_ =>
    rw [hx] at hr;obtain⟨b,o,rfl,hbb,hc⟩:=hr.at (i:=0) (by simp);have hc:=hc 0 (by simp);refine⟨0,rfl,(by show 0<2;omega),_,zb hc (i:=0) rfl,?_⟩;have kd:decide ((t.kind.toNat:Int)=1)=decide (t.kind=1):=(by rw [QG];exact jj (y:=1));refine biE (fun h=>?_) fun h=>?_
    ·have h:decide (t.kind=1)=true:=kd.symm.trans h;exact⟨0,rfl,(by show 0<2;omega),_,zb hc (i:=1) rfl,_,fun w=>jc _ _ t.text s w,rb (by unfold zny;simp only [h,Uy]),hb⟩
    ·have h:decide (t.kind=1)=false:=kd.symm.trans h;exact⟨rb (by unfold zny;simp only [h,Uj]),hb⟩
  ·have h:¬ (qP s).length=2:=by have h:¬ ((qP s).length:Int)=2:=dF h;omega
   refine brF ⟨rb ?_,hb⟩;have gen:∀ l:List Tok,¬ l.length=2->false=zny l s:=fun l hl=>by
    match l,hl with
    | [],_=>rfl
    | [_],_=>rfl
    | [_,_],hl=>exact Gq rfl hl
    | _::_::_::_,_=>rfl
   exact gen _ h
end Go.Proofs.YtpalcnbhkigagaaGreatDoor
