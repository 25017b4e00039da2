/- Contracts of functions, and plain facts, for the law that the last text of this claim proves. -/
import Derived.Test.YtpalcnbhkigagaaGreatDoorH1
import Derived.Laws.BytesArg
import Derived.Laws.Strings
import Derived.Laws.StructEq
import Derived.ChangeKeysEq
set_option linter.unusedSimpArgs false
set_option linter.unusedVariables false
namespace Go.Vc
open Go.RowKit
theorem OwnS.lower {α : Type} {E : Enc α} {T B B' cap : Nat} {w : Wd} {p : OA} {l : List α} (h : OwnS E T B w p cap l) (hB : B' ≤ B) : OwnS E T B' w p cap l := by
  obtain ⟨h1, h2⟩ := h
  refine ⟨h1, ?_⟩
  rcases h2 with h2 | ⟨g, cap', cur, h2, hb, jf⟩
  · exact .inl h2
  · exact .inr ⟨g, cap', cur, h2, UO hB hb, jf⟩
theorem zmW {P : Program} {w : Wd} {t T ty : TypeId} {iT : TI} {z : Value} (hu : P.underlying t = some (.slice T)) (hT : TIok P T iT) (hz : iT.zero = some [z]) (h1 : z.oneCell' = true) {b o n c : Nat} (hn : 0 < n) {cs : Array Value} {u : TypeId} (hg : w.heap[b]? = some (.cells cs u (0, 0))) (ho : o + n ≤ cs.size) {K : Value → Wd → Prop}
    (k : ∀ w', w'.heap[b]? = some (.cells (cs.toList.take o ++ List.replicate n z ++ cs.toList.drop (o + n)).toArray u (0, 0)) → w.grownBy w' (some b) → w'.heap.size = w.heap.size → K (.tuple #[]) w') :
    SatR ((Builtin.clear_ #[t] ty #[.slice (some ⟨b, o, none⟩) n c]).run P w) K := by
  obtain ⟨⟨inf, hi, _, _, hzz⟩, _⟩ := hT
  obtain ⟨zv, hzv, hzc⟩ := hzz _ hz
  have hv : ∀ w, (zeroValue T).run P w = .ok zv w := fun w => by simp [zeroValue, typeInfo, hi, hzv]
  have hzc2 : zv.cells = #[z] := by rw [← hzc]
  have hrep : (Builtin.zeroCells zv.cells n).toList = List.replicate n z := by
    rw [hzc2]
    simp [Builtin.zeroCells]
    apply List.ext_getElem
    · simp
    · intro i h1 h2
      simp [Nat.mod_one]
  have hst := Qg P b o u (List.replicate n z) 0 cs w hg (by simpa using ho) (fun v hv' => by rw [Jv hv']; exact h1)
  refine SatR.mk (v := .tuple #[]) (w' := w.setRow b (cs.toList.take o ++ List.replicate n z ++ cs.toList.drop (o + n)).toArray) ?_ (k _ (zA hg) (ju w b _) (by simp))
  obtain ⟨m, rfl⟩ : ∃ m, n = m + 1 := ⟨n - 1, by omega⟩
  have hrep' : Builtin.zeroCells zv.cells (m + 1) = (List.replicate (m + 1) z).toArray := by rw [← hrep]
  simp only [UN, JP] at hst
  simp [Builtin.clear_, Uv hu, hv, hrep', hst]
theorem zcO {α : Type} {E : Enc α} {P : Program} {w : Wd} {t T : TypeId} {iT : TI} {z : List Value} {kl kc : IntKind} (hu : P.underlying t = some (.slice T)) (hT : TIok P T iT) (hz : iT.zero = some z) (hzl : z.length = iT.size) (hs : iT.size = E.sz) (n : Nat) (h1 : iT.bytes * n ≤ 281474976710656) (h63 : n ≤ maxLen) {K : Value → Wd → Prop}
    (k : ∀ w', OwnS E T w.heap.size w' (some ⟨w.heap.size, 0, none⟩) n [] → Below w.heap.size w w' → w'.heap.size = w.heap.size + 1 → K (.slice (some ⟨w.heap.size, 0, none⟩) 0 n) w') :
    SatR ((Instr.makeSlice t (.int kl 0) (.int kc (n : Int))).run P w) K := by
  obtain ⟨⟨inf, hi, hsz, hby, hzz⟩, _⟩ := hT
  obtain ⟨zv, hzv, hzc⟩ := hzz z hz
  have h63' : (n : Int) ≤ 9223372036854775807 := by unfold maxLen at h63; omega
  have hb' : (inf.bytes : Int) * (n : Int) ≤ 281474976710656 := by
    have h : ((inf.bytes * n : Nat) : Int) ≤ 281474976710656 := by rw [hby]; omega
    rwa [QK] at h
  have hr := run_make (P := P) w t T inf zv hu hi hzv kl kc 0 n (by omega) (by omega) hb' h63'
  simp only [KO, Int.toNat_zero] at hr
  have hcs : zv.cells.size = inf.size := by rw [hsz, ← hzl, ← hzc]; simp
  have hp : 0 < zv.cells.size := by rw [hcs, hsz, hs]; exact E.pos
  have hm : (madeCells zv.cells (n * inf.size)).size = n * E.sz := by
    have := Gl List.length (zhA (z := zv) hp n)
    rw [zfC, hcs] at this
    rw [← hs, ← hsz]
    simpa [hcs] using this
  refine SatR.mk hr (k _ ?_ ((Gd _ _).alloc (UY _) _) (by simp))
  exact World.ownsRow_made w _ n (UY _) h63 hm
structure StepG (n0 : Nat) (Ow F : Nat → Prop) (A B : Wd) : Prop where
  os : B.os = A.os
  tape : B.tape = A.tape
  output : B.output = A.output
  size : A.heap.size ≤ B.heap.size
  same : ∀ k, k < A.heap.size → ((k < n0 ∧ ¬ Ow k) ∨ F k) → B.heap[k]? = A.heap[k]?
theorem StepG.mono {n0 n1 : Nat} {Ow F : Nat → Prop} {A B : Wd} (h : StepG n0 Ow F A B) (hn : n1 ≤ n0) : StepG n1 Ow F A B :=
  ⟨h.os, h.tape, h.output, h.size, fun k hk hf => h.same k hk (hf.imp (fun h => ⟨KI h.1 hn, h.2⟩) id)⟩
theorem StepG.below {n0 : Nat} {Ow F : Nat → Prop} {A B : Wd} (h : Below A.heap.size A B) : StepG n0 Ow F A B :=
  ⟨h.os, h.tape, h.output, h.size, fun k hk _ => h.block k hk⟩
theorem StepG.trans {n0 : Nat} {Ow F : Nat → Prop} {A B C : Wd} (h : StepG n0 Ow F A B) (k : StepG n0 Ow F B C) : StepG n0 Ow F A C :=
  ⟨k.os.trans h.os, k.tape.trans h.tape, k.output.trans h.output, UO h.size k.size, fun i hi hf => (k.same i (KI hi h.size) hf).trans (h.same i hi hf)⟩
theorem StepG.put {n0 : Nat} {Ow F : Nat → Prop} {A : Wd} {l : Nat} (h : n0 ≤ l) (hf : ¬ F l) (o : Obj) : StepG n0 Ow F A (A.putObj l o) :=
  ⟨rfl, rfl, rfl, by simp [World.putObj], fun k _ hk => zg (fun e => by subst e; rcases hk with hk | hk; omega; exact hf hk)⟩
theorem StepG.grown {n0 : Nat} {Ow F : Nat → Prop} {A B : Wd} {l : Nat} (h : A.grownBy B (some l)) (hl : n0 ≤ l ∨ Ow l) (hf : ¬ F l) : StepG n0 Ow F A B :=
  ⟨h.os, h.tape, h.output, h.size, fun k hk hf2 => h.block k hk (fun e => by
    have e : k = l := by simpa using e
    subst e
    rcases hf2 with h2 | h2
    · rcases hl with hl | hl
      · omega
      · exact h2.2 hl
    · exact hf h2)⟩
structure JG {σ : Type} (n0 : Nat) (Ow : Nat → Prop) (J : σ → (Nat → Prop) → Wd → Prop) : Prop where
  step : ∀ s F A B, J s F A → StepG n0 Ow F A B → J s F B
  lt : ∀ s F A k, J s F A → F k → k < A.heap.size ∧ ¬ Ow k
theorem JG.mono {σ : Type} {n0 n1 : Nat} {Ow : Nat → Prop} {J : σ → (Nat → Prop) → Wd → Prop} (h : JG n0 Ow J) (hn : n0 ≤ n1) : JG n1 Ow J :=
  ⟨fun s F A B hj hs => h.step s F A B hj (hs.mono hn), h.lt⟩
structure KeepsG (F F' : Nat → Prop) (A B : Wd) : Prop where
  os : B.os = A.os
  tape : B.tape = A.tape
  output : B.output = A.output
  size : A.heap.size ≤ B.heap.size
  same : ∀ k, k < A.heap.size → ¬ F k → B.heap[k]? = A.heap[k]?
  fp : ∀ k, F' k → F k ∨ A.heap.size ≤ k
theorem KeepsG.refl (F : Nat → Prop) (A : Wd) : KeepsG F F A A := ⟨rfl, rfl, rfl, UY _, fun _ _ _ => rfl, fun _ h => .inl h⟩
theorem KeepsG.trans {F F' F'' : Nat → Prop} {A B C : Wd} (h : KeepsG F F' A B) (k : KeepsG F' F'' B C) : KeepsG F F'' A C :=
  ⟨k.os.trans h.os, k.tape.trans h.tape, k.output.trans h.output, UO h.size k.size,
   fun i hi hf => (k.same i (KI hi h.size) (fun hb => by rcases h.fp i hb with h1 | h1; exact hf h1; omega)).trans (h.same i hi hf),
   fun i hi => by
     rcases k.fp i hi with h1 | h1
     · exact h.fp i h1
     · exact .inr (UO h.size h1)⟩
theorem KeepsG.weak {F F' G : Nat → Prop} {A B : Wd} (h : KeepsG F F' A B) (hF : ∀ k, F k → G k) : KeepsG G F' A B :=
  ⟨h.os, h.tape, h.output, h.size, fun k hk hg => h.same k hk fun hf => hg (hF k hf), fun k hk => (h.fp k hk).imp (hF k) id⟩
theorem KeepsG.below {F F' : Nat → Prop} {A B : Wd} (h : Below A.heap.size A B) (hf : ∀ k, F' k → F k ∨ A.heap.size ≤ k) : KeepsG F F' A B :=
  ⟨h.os, h.tape, h.output, h.size, fun k hk _ => h.block k hk, hf⟩
theorem KeepsG.grown {F : Nat → Prop} {A B : Wd} {g : Nat} (h : A.grownBy B (some g)) (hg : F g) : KeepsG F F A B :=
  ⟨h.os, h.tape, h.output, h.size, fun k hk hf => h.block k hk (fun e => hf (by cases e; exact hg)), fun k h => .inl h⟩
def zhS {α : Type} (P : Program) (g : Nat) (lb : List Value) (xs : List α) (W0 : Wd) (Rd Ow : Nat → Prop) (St : List α → List Value → Wd → Prop) : Prop :=
  ∀ (l : Nat) (F0 : Nat → Prop) (J Jx : List α → (Nat → Prop) → Wd → Prop) (W : Wd), W0.heap.size ≤ W.heap.size → (∀ k, Rd k ∨ Ow k → W.heap[k]? = W0.heap[k]?) → (∀ k, Rd k → ¬ F0 k) →
    JG W.heap.size Ow J → JG W.heap.size Ow Jx →
    (∀ pre x vs F W1, J pre F W1 → St (pre ++ [x]) vs W1 → (pre ++ [x]) <+: xs → YieldR P l vs.toArray W1 fun v W2 =>
      (v = .bool true ∧ ∃ F', J (pre ++ [x]) F' W2 ∧ KeepsG F F' W1 W2) ∨ (v = .bool false ∧ ∃ F', Jx (pre ++ [x]) F' W2)) →
    J [] F0 W →
    Calls P g (.func (.yield l) #[] #[] :: lb).toArray W fun e W' => (∃ v, e = .returned v) ∧ ((∃ F', J xs F' W') ∨ ∃ pre F', pre <+: xs ∧ Jx pre F' W')
def zqG {α : Type} (F : Nat → Prop) (J : List α → (Nat → Prop) → Wd → Prop) (Jx : Exit → List α → (Nat → Prop) → Wd → Prop) (xs : List α) (A : Wd) : Exit → Env → Wd → Prop
  | .normal, _, B => ∃ F', J xs F' B ∧ KeepsG F F' A B
  | .ret, _, B => ∃ F', Jx .ret xs F' B ∧ KeepsG F F' A B
  | .exit id, _, B => ∃ F', Jx (.exit id) xs F' B ∧ KeepsG F F' A B
  | _, _, _ => False
theorem zcK {α : Type} {S : Sig} (hS : SigOk S) (hr : S.r = none) {f : Operand} {ps : Array Tmp} {assign body : Code} {E : Env} {w : Wd} {Q : Exit → Env → Wd → Prop}
    {gf : Nat} {lb : Array Value} (hg : opd E f = some (.func (.func gf) #[] lb)) (hok : zag S gf = true)
    {xs : List α} {W0 : Wd} {Rd Ow : Nat → Prop} {St : List α → List Value → Wd → Prop} (hI : zhS S.P gf lb.toList xs W0 Rd Ow St) (hW0 : W0.heap.size ≤ w.heap.size) (hRd : ∀ k, Rd k ∨ Ow k → k < W0.heap.size ∧ w.heap[k]? = W0.heap[k]?)
    (hps : ∀ pre vs W, St pre vs W → vs.length = ps.size) (hpn : ∀ p ∈ ps.toList, p < S.n)
    (F0 : Nat → Prop) (J : List α → (Nat → Prop) → Wd → Prop) (Jx : Exit → List α → (Nat → Prop) → Wd → Prop) (hRF : ∀ k, Rd k → ¬ F0 k)
    (hJ : JG w.heap.size Ow J) (hJx : ∀ ex, JG w.heap.size Ow (Jx ex)) (h0 : J [] F0 w)
    (hround : ∀ (l : Nat) (pre : List α) (x : α) (vs : List Value) (F : Nat → Prop) (W : Wd), w.heap.size ≤ l → (pre ++ [x]) <+: xs → J pre F W → St (pre ++ [x]) vs W → ¬ F l → (∃ lo, W.heap[l]? = some (.loop lo)) →
      wpE (sr S l) assign ⟨zfM ps.toList vs E.vs, []⟩ W fun ex E1 W1 => ex = .normal ∧ ∃ F1, KeepsG F F1 W W1 ∧ J pre F1 W1 ∧
        ∀ o W2, W2 = W1.putObj l o → J pre F1 W2 → wpE (sr S l) body E1 W2 (zqG F1 J Jx (pre ++ [x]) W2))
    (hdone : ∀ D F W, w.heap.size ≤ D → ¬ F D → J xs F W → W.heap[D]? = some (.deferred (some [])) → Q .normal ⟨E.vs, { target := .collected D, args := #[] } :: E.ds⟩ W)
    (hstop : ∀ D ex pre F W, w.heap.size ≤ D → ¬ F D → pre <+: xs → Jx ex pre F W → W.heap[D]? = some (.deferred (some [])) → Q ex ⟨E.vs, { target := .collected D, args := #[] } :: E.ds⟩ W) :
    ziN S f ps assign body E w Q := by
  intro a ha
  have hcall : ∀ args w, (callFunc gf args).run S.P w = .ok (.enter gf args) w := by
    simp only [zag, Qk, Gf, Gg] at hok
    exact fun args w => hS.call gf hok.1.1 hok.1.2 hok.2 args w
  refine wpIn_rangeFunc ?_
  intro fn hfn
  have hro : (FR S.r).round = none := hr
  rw [hro]
  obtain ⟨rec, hrec⟩ : ∃ rec : LoopState → Option Code → Loop, rec = fun st pe => { state := st, pending := pe, fn, tmps := a.tmps, params := ps, assign, body, defers := w.heap.size } := ⟨_, rfl⟩
  obtain ⟨W1, hW1⟩ : ∃ W1, (w.alloc (.deferred (some []))).alloc (.loop (rec .ready none)) = W1 := ⟨_, rfl⟩
  have hK0 := zz w (.deferred (some []))
  have hK1 : W1.heap[w.heap.size]? = some (.deferred (some [])) := by rw [← hW1]; exact qG _ hK0
  have hL1 : W1.heap[w.heap.size + 1]? = some (.loop (rec .ready none)) := by
    rw [← hW1]; have := zz (w.alloc (.deferred (some []))) (.loop (rec .ready none)); rwa [QH] at this
  have hs1 : W1.heap.size = w.heap.size + 2 := by rw [← hW1]; simp
  have hst1 : Below w.heap.size w W1 := by
    rw [← hW1]; exact ((Gd _ w).alloc (UY _) _).alloc (by simp) _
  have hJ1 := hJ.step _ _ _ _ h0 (.below hst1)
  have hOl : ∀ k, w.heap.size ≤ k → ¬ Ow k := fun k hk ho => by have := (hRd k (.inr ho)).1; omega
  have hFl : ∀ k, F0 k → k < w.heap.size := fun k hk => (hJ.lt _ _ _ k h0 hk).1
  refine ⟨w.heap.size + 1, [{ target := .collected w.heap.size, args := #[] }], W1, { target := .fn (.func gf) lb, args := #[.func (.yield (w.heap.size + 1)) #[] #[]] }, W1, gf,
    #[.func (.yield (w.heap.size + 1)) #[] #[]] ++ lb, W1, ?_, ?_, fun _ _ => trivial, ?_, fun h => by simp [FR] at h, ?_⟩
  · rw [← hW1, hrec]; exact Kt _ _ _ _ _
  · have hg' := ha.eval hg
    simp only [resolve, hg']
    simp [go_sem]
  · simp [invoke, go_sem, hcall]
  · have hargs : #[Value.func (.yield (w.heap.size + 1)) #[] #[]] ++ lb = (Value.func (.yield (w.heap.size + 1)) #[] #[] :: lb.toList).toArray := by rw [← Qh]; simp
    rw [hargs]
    have book : ∀ {σ : Type} {K : σ → (Nat → Prop) → Wd → Prop} (lo : Loop), JG w.heap.size Ow K → JG W1.heap.size Ow (fun s F W => K s F W ∧ W.heap[w.heap.size + 1]? = some (.loop lo) ∧ W.heap[w.heap.size]? = some (.deferred (some [])) ∧ ¬ F (w.heap.size + 1) ∧ ¬ F w.heap.size) := by
      intro σ K lo hK
      refine ⟨fun s F A B ⟨hk, hl, hd, hf1, hf2⟩ hs => ?_, fun s F A k ⟨hk, _⟩ hf => hK.lt s F A k hk hf⟩
      exact ⟨hK.step s F A B hk (hs.mono (by omega)), (hs.same _ (hlt hl) (.inl ⟨by omega, hOl _ (by omega)⟩)).trans hl, (hs.same _ (hlt hd) (.inl ⟨by omega, hOl _ (by omega)⟩)).trans hd, hf1, hf2⟩
    have hcalls := hI (w.heap.size + 1) F0 (fun pre F W => J pre F W ∧ W.heap[w.heap.size + 1]? = some (.loop (rec .ready none)) ∧ W.heap[w.heap.size]? = some (.deferred (some [])) ∧ ¬ F (w.heap.size + 1) ∧ ¬ F w.heap.size)
      (fun pre F W => ∃ ex c, ((ex = .ret ∧ c = .ret) ∨ ∃ id, ex = .exit id ∧ c = .exit id) ∧ Jx ex pre F W ∧ W.heap[w.heap.size + 1]? = some (.loop (rec .done (some c))) ∧ W.heap[w.heap.size]? = some (.deferred (some [])) ∧ ¬ F (w.heap.size + 1) ∧ ¬ F w.heap.size)
      W1 (by omega) (fun k hk => by
        obtain ⟨h1, h2⟩ := hRd k hk
        rw [← h2]
        exact hst1.block k (by omega)) hRF (book _ hJ)
      ⟨fun s F A B ⟨ex, c, hc, hrest⟩ hs => ⟨ex, c, hc, (book (rec .done (some c)) (hJx ex)).step s F A B hrest hs⟩,
       fun s F A k ⟨ex, c, hc, hrest⟩ hf => (hJx ex).lt s F A k hrest.1 hf⟩ ?_ ⟨hJ1, hL1, hK1, fun h => by have := hFl _ h; omega, fun h => by have := hFl _ h; omega⟩
    · refine zcx (hcalls.mono ?_)
      rintro e W2 ⟨⟨v, rfl⟩, (⟨F, hj, hl, hk, hf1, hf2⟩ | ⟨pre, F, hpre, ex, c, hc, hj, hl, hk, hf1, hf2⟩)⟩
      · have hj2 := hJ.step _ _ _ _ hj (StepG.put (Ow := Ow) (o := .loop (rec .exhausted none)) (n0 := w.heap.size) (l := w.heap.size + 1) (by omega) hf1)
        refine ⟨none, _, by have := Gc (P := S.P) hl (by rw [hrec]; simp); rw [hrec] at this; exact this, ?_⟩
        rw [hrec] at hj2
        exact ⟨⟨E.vs, { target := .collected w.heap.size, args := #[] } :: E.ds⟩, ⟨ha.size, by simp [ha.defers], ha.val⟩, hdone w.heap.size F _ (UY _) hf2 hj2 ((zg (by omega)).trans hk)⟩
      · have hj2 := (hJx ex).step _ _ _ _ hj (StepG.put (Ow := Ow) (o := .loop (rec .exhausted (some c))) (n0 := w.heap.size) (l := w.heap.size + 1) (by omega) hf1)
        refine ⟨some c, _, by have := Gc (P := S.P) hl (by rw [hrec]; simp); rw [hrec] at this; exact this, ?_⟩
        rw [hrec] at hj2
        have hq := hstop w.heap.size ex pre F _ (UY _) hf2 hpre hj2 ((zg (by omega)).trans hk)
        rcases hc with ⟨rfl, rfl⟩ | ⟨id, rfl, rfl⟩
        · exact wpIn_ret ⟨⟨E.vs, { target := .collected w.heap.size, args := #[] } :: E.ds⟩, ⟨ha.size, by simp [ha.defers], ha.val⟩, hq⟩
        · exact wpIn_exit ⟨⟨E.vs, { target := .collected w.heap.size, args := #[] } :: E.ds⟩, ⟨ha.size, by simp [ha.defers], ha.val⟩, hq⟩
    · rintro pre x vs F W ⟨hj, hl, hk, hf1, hf2⟩ hst0 hpre
      have hy := run_yield (P := S.P) (args := vs.toArray) hl (by rw [hrec]; simpa using hps _ _ _ hst0)
      rw [hrec] at hy
      refine ⟨fn, _, assign, body, hy, zbG (r := none) (n := NN) (roundIn_of_wpIn (F := FR none) trivial ?_)⟩
      have hag : Agrees (sr S (w.heap.size + 1)) { tmps := (ps.zip vs.toArray).foldl (fun t (p, v) => t.setIfInBounds p v) a.tmps, defers := [] } ⟨zfM ps.toList vs E.vs, []⟩ := by
        have h1 : Agrees (sr S (w.heap.size + 1)) { a with defers := [] } ⟨E.vs, []⟩ := ⟨ha.size, rfl, ha.val⟩
        have h2 := zbF ps.toList vs _ _ h1 hpn
        have e : (ps.zip vs.toArray).foldl (fun t (p, v) => t.setIfInBounds p v) a.tmps = (ps.toList.zip vs).foldl (fun t (p, v) => t.setIfInBounds p v) a.tmps := by
          rw [← Ku]; simp
        rw [e]; exact h2
      have hw := qK (zhc hS _) assign _ _ W _ hag (hround (w.heap.size + 1) pre x vs F W (by omega) hpre hj hst0 hf1 ⟨_, hl⟩)
      refine Gj hw ?_
      rintro ex a1 Wa ⟨E1, hag1, rfl, F1, hk1, hj1, hbody⟩
      have hla := (hk1.same _ (hlt hl) hf1).trans hl
      have hka := (hk1.same _ (hlt hk) hf2).trans hk
      have hfa1 : ¬ F1 (w.heap.size + 1) := fun h => by rcases hk1.fp _ h with h | h; exact hf1 h; have := hlt hl; omega
      have hfa2 : ¬ F1 w.heap.size := fun h => by rcases hk1.fp _ h with h | h; exact hf2 h; have := hlt hk; omega
      refine ⟨_, run_beginRound hla (by rw [hrec]), ?_⟩
      have hst : StepG w.heap.size Ow F1 Wa (Wa.putObj (w.heap.size + 1) (.loop { rec .ready none with state := .busy })) := .put (by omega) hfa1 _
      have hj2 := hJ.step _ _ _ _ hj1 hst
      have hw2 := qK (zhc hS _) body _ _ _ _ hag1 (hbody _ _ rfl hj2)
      refine Gj hw2 ?_
      have hl2 : (Wa.putObj (w.heap.size + 1) (.loop { rec .ready none with state := .busy })).heap[w.heap.size + 1]? = some (.loop { rec .ready none with state := .busy }) := zcb hla
      have hk2 : (Wa.putObj (w.heap.size + 1) (.loop { rec .ready none with state := .busy })).heap[w.heap.size]? = some (.deferred (some [])) := (zg (by omega)).trans hka
      have fin : ∀ (jump : Option Code) (F3 : Nat → Prop) (W3 : Wd), KeepsG F1 F3 (Wa.putObj (w.heap.size + 1) (.loop { rec .ready none with state := .busy })) W3 →
          (Instr.endRound (w.heap.size + 1) jump).run S.P W3 = .ok (.bool jump.isNone) (W3.putObj (w.heap.size + 1) (.loop (rec (if jump.isNone then .ready else .done) jump))) ∧
          (W3.putObj (w.heap.size + 1) (.loop (rec (if jump.isNone then .ready else .done) jump))).heap[w.heap.size + 1]? = some (.loop (rec (if jump.isNone then .ready else .done) jump)) ∧
          (W3.putObj (w.heap.size + 1) (.loop (rec (if jump.isNone then .ready else .done) jump))).heap[w.heap.size]? = some (.deferred (some [])) ∧
          StepG w.heap.size Ow F3 W3 (W3.putObj (w.heap.size + 1) (.loop (rec (if jump.isNone then .ready else .done) jump))) ∧ ¬ F3 (w.heap.size + 1) ∧ ¬ F3 w.heap.size := fun jump F3 W3 hk3 => by
        have hl3 := (hk3.same _ (hlt hl2) hfa1).trans hl2
        have hd3 := (hk3.same _ (hlt hk2) hfa2).trans hk2
        have hf31 : ¬ F3 (w.heap.size + 1) := fun h => by rcases hk3.fp _ h with h | h; exact hfa1 h; have := hlt hl2; omega
        have hf32 : ¬ F3 w.heap.size := fun h => by rcases hk3.fp _ h with h | h; exact hfa2 h; have := hlt hk2; omega
        have := run_endRound (P := S.P) jump hl3
        rw [hrec] at this ⊢
        exact ⟨this, zcb hl3, (zg (by omega)).trans hd3, .put (by omega) hf31 _, hf31, hf32⟩
      rintro e a3 W3 ⟨E3, _, hq⟩
      cases e with
      | normal =>
        obtain ⟨F3, hj3, hk3⟩ := hq
        obtain ⟨hr3, hl4, hk4, hs3, hf31, hf32⟩ := fin none F3 W3 hk3
        have hj4 := hJ.step _ _ _ _ hj3 hs3
        refine ⟨_, _, hr3, .inl ⟨rfl, F3, ⟨hj4, hl4, hk4, hf31, hf32⟩, ?_⟩⟩
        refine ⟨hs3.os.trans (hk3.os.trans hk1.os), hs3.tape.trans (hk3.tape.trans hk1.tape), hs3.output.trans (hk3.output.trans hk1.output), ?_, fun k hk5 hf5 => ?_, fun k hk5 => ?_⟩
        · have h1 := hk1.size; have h2 := hst.size; have h3 := hk3.size; have h4 := hs3.size; omega
        · by_cases hkl : k = w.heap.size + 1
          · subst hkl; rw [hl4, hl]; rfl
          · have h1 : ¬ F1 k := fun h => by rcases hk1.fp _ h with h | h; exact hf5 h; omega
            have h2 := hk1.size; have h3 := hst.size
            rw [zg hkl, hk3.same k (by omega) h1, zg hkl]
            exact hk1.same k hk5 hf5
        · rcases hk3.fp _ hk5 with h2 | h2
          · exact hk1.fp _ h2
          · have h3 := hk1.size; have h4 := hst.size; exact .inr (by omega)
      | ret =>
        obtain ⟨F3, hj3, hk3⟩ := hq
        obtain ⟨hr3, hl4, hk4, hs3, hf31, hf32⟩ := fin (some .ret) F3 W3 hk3
        have hj4 := (hJx .ret).step _ _ _ _ hj3 hs3
        exact ⟨_, _, hr3, .inr ⟨rfl, F3, .ret, .ret, .inl ⟨rfl, rfl⟩, hj4, hl4, hk4, hf31, hf32⟩⟩
      | exit id =>
        obtain ⟨F3, hj3, hk3⟩ := hq
        obtain ⟨hr3, hl4, hk4, hs3, hf31, hf32⟩ := fin (some (.exit id)) F3 W3 hk3
        have hj4 := (hJx (.exit id)).step _ _ _ _ hj3 hs3
        exact ⟨_, _, hr3, .inr ⟨rfl, F3, .exit id, .exit id, .inr ⟨id, rfl, rfl⟩, hj4, hl4, hk4, hf31, hf32⟩⟩
      | goto t => exact hq.elim
      | panic ch => exact hq.elim
      | outgrown => exact hq.elim
end Go.Vc
namespace Go.Proofs.YtpalcnbhkigagaaGreatDoor
open Go.Vc Go.RowKit Go.Sei
def s64 (n:Nat):Value := .int .u64 (n:Nat)
def s32 (n:Nat):Value := .int .u32 (n:Nat)
theorem bvN {a:Nat} (h:a<2^64):(BitVec.ofInt 64 (a:Int)).toNat=a:=by
 rw [Kv];have:((a:Int)%((2^64:Nat):Int))=(a:Int):=Int.emod_eq_of_lt (by omega) (by omega);rw [this];rfl
theorem w64 {a:Int} (h:0<=a/\a<=18446744073709551615):IntKind.u64.wrap a=a:=zav h
theorem zai {a b:Nat} (ha:a<2^64) (hb:b<2^64):IntKind.u64.wrap ((BitVec.ofInt IntKind.u64.bits (a:Int)&&&BitVec.ofInt IntKind.u64.bits (b:Int)).toNat:Int)=((a&&&b:Nat):Int):=by
 show IntKind.u64.wrap ((BitVec.ofInt 64 (a:Int)&&&BitVec.ofInt 64 (b:Int)).toNat:Int)=_;rw [Qj,bvN ha,bvN hb];have:a&&&b<=a:=Ua;exact w64 (by omega)
theorem zaw {a b:Nat} (ha:a<2^64) (hb:b<2^64):IntKind.u64.wrap ((BitVec.ofInt IntKind.u64.bits (a:Int)|||BitVec.ofInt IntKind.u64.bits (b:Int)).toNat:Int)=((a|||b:Nat):Int):=by
 show IntKind.u64.wrap ((BitVec.ofInt 64 (a:Int)|||BitVec.ofInt 64 (b:Int)).toNat:Int)=_;rw [BitVec.toNat_or,bvN ha,bvN hb];have:a|||b<2^64:=Qb ha hb;exact w64 (by omega)
def qa (a b:Nat):Nat:=a&&&(18446744073709551615-b)
theorem zaX {a b:Nat} (ha:a<2^64) (hb:b<2^64):IntKind.u64.wrap ((BitVec.ofInt IntKind.u64.bits (a:Int) &&& ~~~ BitVec.ofInt IntKind.u64.bits (b:Int)).toNat:Int)=((qa a b:Nat):Int):=by
 show IntKind.u64.wrap ((BitVec.ofInt 64 (a:Int) &&& ~~~ BitVec.ofInt 64 (b:Int)).toNat:Int)=_;rw [Qj,BitVec.toNat_not,bvN ha,bvN hb];have e:2^64-1-b=18446744073709551615-b:=by omega
 rw [e];have:a&&&(18446744073709551615-b)<=a:=Ua;unfold qa;exact w64 (by omega)
theorem qW {a b:Nat} (ha:a<2^64):qa a b<2^64:=by
 have:qa a b<=a:=Ua;omega
theorem zat {a b i:Nat} (hb:b<2^64) (hi:i<64):(qa a b).testBit i=(a.testBit i && !b.testBit i):=by
 unfold qa;rw [Ue,show 18446744073709551615-b=2^64-(b+1) by omega,Nat.testBit_two_pow_sub_succ hb];simp [hi]
theorem jI {e:Nat} (he:e<64):IntKind.u64.wrap ((1:Int)*2^(min (Int.toNat (e:Int)) IntKind.u64.bits))=((2^e:Nat):Int):=by
 have h64:2^e<2^64:=Kh (by decide) he;have e1:min (Int.toNat (e:Int)) IntKind.u64.bits=e:=by
  rw [KO];show min e 64=_;omega
 rw [e1,Int.one_mul];have e2:(2:Int)^e=((2^e:Nat):Int):=by simp
 rw [e2];exact w64 ⟨Int.natCast_nonneg _,Int.ofNat_le.2 (show 2^e<=18446744073709551615 by omega)⟩
theorem zfm {a k:Nat} (hk:k<=64):((a:Nat):Int).fdiv (2^(min (Int.toNat (k:Int)) IntKind.u64.bits))=((a/2^k:Nat):Int):=by
 rw [KO,show min k IntKind.u64.bits=k from Uc hk,Jm _ (Int.pow_nonneg (by decide)),Int.natCast_ediv,Int.natCast_pow];rfl
theorem ziJ {a k:Nat}:(a/2^k)&&&1=if a.testBit k then 1 else 0:=by
 rw [KG,Nat.testBit_eq_decide_div_mod_eq];by_cases h:a/2^k%2=1
 ·rw [h];rfl
 ·rw [Gq (by simpa using h)];omega
theorem qb {k:Nat} (h:k<64):2^k<2^64:=Kh (by decide) h
theorem w32 {a:Int} (h:0<=a/\a<=4294967295):IntKind.u32.wrap a=a:=by
 unfold IntKind.wrap;simp only [IntKind.bits,IntKind.signed,Ul,Kw,Gm];omega
theorem zl4 {a:Nat} (h:a<2^32):(BitVec.ofInt 32 (a:Int)).toNat=a:=by
 rw [Kv];have:((a:Int)%((2^32:Nat):Int))=(a:Int):=Int.emod_eq_of_lt (by omega) (by omega);rw [this];rfl
theorem zli {a b:Nat} (ha:a<2^32) (hb:b<2^32):IntKind.u32.wrap ((BitVec.ofInt IntKind.u32.bits (a:Int)&&&BitVec.ofInt IntKind.u32.bits (b:Int)).toNat:Int)=((a&&&b:Nat):Int):=by
 show IntKind.u32.wrap ((BitVec.ofInt 32 (a:Int)&&&BitVec.ofInt 32 (b:Int)).toNat:Int)=_;rw [Qj,zl4 ha,zl4 hb];have:a&&&b<=a:=Ua;exact w32 (by omega)
theorem zex {a b:Nat} (ha:a<2^32) (hb:b<2^32):IntKind.u32.wrap ((BitVec.ofInt IntKind.u32.bits (a:Int)|||BitVec.ofInt IntKind.u32.bits (b:Int)).toNat:Int)=((a|||b:Nat):Int):=by
 show IntKind.u32.wrap ((BitVec.ofInt 32 (a:Int)|||BitVec.ofInt 32 (b:Int)).toNat:Int)=_;rw [BitVec.toNat_or,zl4 ha,zl4 hb];have:a|||b<2^32:=Qb ha hb;exact w32 (by omega)
theorem zfn {e:Nat} (he:e<32):IntKind.u32.wrap ((1:Int)*2^(min (Int.toNat (e:Int)) IntKind.u32.bits))=((2^e:Nat):Int):=by
 have h64:2^e<2^32:=Kh (by decide) he;have e1:min (Int.toNat (e:Int)) IntKind.u32.bits=e:=by
  rw [KO];show min e 32=_;omega
 rw [e1,Int.one_mul];have e2:(2:Int)^e=((2^e:Nat):Int):=by simp
 rw [e2];exact w32 ⟨Int.natCast_nonneg _,Int.ofNat_le.2 (show 2^e<=4294967295 by omega)⟩
def zg6:List UInt8:=[0,1,56,2,57,49,28,3,61,58,42,50,38,29,17,4,62,47,59,36,45,43,51,22,53,39,33,30,24,18,12,5,63,55,48,27,60,41,37,16,46,35,44,21,52,32,23,11,54,26,40,15,34,20,31,10,25,14,19,9,13,8,7,6]
def zg7:List UInt8:=[0,1,28,2,29,14,24,3,30,22,20,15,25,17,4,8,31,27,13,23,21,19,16,7,26,12,18,6,11,5,10,9]
def Tz64M (X:Wd):Prop:=zx X ⟨1,0,none⟩ (zg6.map u8)
def Tz32M (X:Wd):Prop:=zx X ⟨0,0,none⟩ (zg7.map u8)
theorem Tz64M.below {w w2:Wd} (h:Tz64M w) (hb:Bw w w2):Tz64M w2:=zm hb h
theorem Tz32M.below {w w2:Wd} (h:Tz32M w) (hb:Bw w w2):Tz32M w2:=zm hb h
theorem znk {k:Nat} (hk:k<64):2^k*285870213051353865%18446744073709551616/2^58<64/\zg6[2^k*285870213051353865%18446744073709551616/2^58]?=some (UInt8.ofNat k):=by
 have h:(List.range 64).all (fun k=>decide (2^k*285870213051353865%18446744073709551616/2^58<64)&&decide (zg6[2^k*285870213051353865%18446744073709551616/2^58]?=some (UInt8.ofNat k)))=true:=by kernel_rfl
 have h1:=Qm.1 h k (Uq.2 hk);rw [bAT,dE,dE] at h1;exact h1
theorem znm {k:Nat} (hk:k<32):2^k*125613361%4294967296/2^27<32/\zg7[2^k*125613361%4294967296/2^27]?=some (UInt8.ofNat k):=by
 have h:(List.range 32).all (fun k=>decide (2^k*125613361%4294967296/2^27<32)&&decide (zg7[2^k*125613361%4294967296/2^27]?=some (UInt8.ofNat k)))=true:=by kernel_rfl
 have h1:=Qm.1 h k (Uq.2 hk);rw [bAT,dE,dE] at h1;exact h1
theorem znl {s:Nat} {w:Wd} (hT:Tz64M w) (h0:s≠0) (h:s<2^64):Calls PG 114 #[s64 s] w fun e w'=>e = .returned (i64 (ctz s:Nat))/\w=w':=by
 refine zI 14 [s64 s] Tryz.func114 ?_;obtain⟨_,_,h2,h3⟩:=jM h0 h;have hp:=qb h3;obtain⟨t1,t2⟩:=znk h3;refine brN (Uj (fun e=>h0 (by omega))) ⟨((2^64-s:Nat):Int),by unfold IntKind.wrap;simp only [IntKind.bits,IntKind.signed,Ul,Kw,Gm];omega,?_⟩;refine⟨((2^ctz s:Nat):Int),(zai (a:=s) (b:=2^64-s) h (by omega)).trans (by rw [h2]),?_⟩;refine⟨((2^ctz s*285870213051353865%18446744073709551616:Nat):Int),by
  have e:(((2^ctz s:Nat):Int)*285870213051353865)=((2^ctz s*285870213051353865:Nat):Int):=by rw [QK];rfl
  rw [e];generalize 2^ctz s*285870213051353865=n;unfold IntKind.wrap;simp only [IntKind.bits,IntKind.signed,Ul,Kw,Gm];omega,?_⟩
 refine⟨by decide,_,zfm (k:=58) (by decide),_,rfl,t1,?_⟩;have hv:(zg6.map u8)[2^ctz s*285870213051353865%18446744073709551616/2^58]?=some (u8 (UInt8.ofNat (ctz s))):=by rw [KX,t2];rfl
 refine⟨u8 (UInt8.ofNat (ctz s)),by rw [UZ];exact zc hT hv,?_⟩;have e:(UInt8.ofNat (ctz s)).toNat=ctz s:=by rw [KK];omega
 exact⟨(ctz s:Int),by rw [e];exact ze (by omega),rfl,rfl⟩
theorem zgB {s:Nat} {w:Wd}:Calls PG 84 #[s64 s] w fun e w'=>e = .returned (.func (.func 113) #[] #[.pointer (some ⟨w.heap.size,0,none⟩)])/\w'=w.alloc (.cells #[s64 s] 45):=by
 refine zI 4 [s64 s] Tryz.func84 ?_;exact⟨rfl,rfl⟩
def StN (pre:List Nat) (vs:List Value) (W:Wd):Prop:=∃ c,pre.getLast?=some c/\vs=[i64 (c:Nat)]
theorem j0 {X Y:Wd} (h:Tz64M X) (hs:Y.heap[1]?=X.heap[1]?):Tz64M Y:=jk hs h
theorem zax {X:Wd} (h:Tz64M X):1<X.heap.size:=JB X _ (zk0 h)
def RdE (bx:Nat) (k:Nat):Prop:=k=bx\/k=1
theorem zjO {bx s:Nat} {W0:Wd} (hbx:W0.heap[bx]?=some (.cells #[s64 s] 45 (0,0))) (hs:s<2^64) (hT:Tz64M W0) :
  zhS PG 113 [At0 bx] (els s) W0 (RdE bx) (fun _=>False) StN:=by
 intro yl F0 J Jx W hsz hrd hrf hJ hJx hy h0;have hbW:W.heap[bx]?=some (.cells #[s64 s] 45 (0,0)):=(hrd bx (.inl (.inl rfl))).trans hbx;have hTW:Tz64M W:=j0 hT (hrd _ (.inl (.inr rfl)));have hgf:¬ F0 1:=hrf _ (.inr rfl);refine zI 16 [.func (.yield yl) #[] #[],At0 bx] Tryz.func113 ?_;refine⟨_,zc (za hbW) (i:=0) rfl,?_⟩;refine⟨List Nat×Nat,fun q=>⟨[(0,.func (.yield yl) #[] #[]),(3,s64 q.2)],[]⟩,
  fun q X=>∃ F,J q.1 F X/\els s=q.1++els q.2/\q.2<2^64/\Tz64M X/\¬ F 1,fun q=>q.2,([],s),
  (cvE rfl rfl),⟨F0,h0,rfl,hs,hTW,hgf⟩,?_⟩
 clear hbW hTW hgf h0;rintro⟨pre,r⟩ X ⟨F,hI,hxs,hr,hTX,hgX⟩;dsimp only at hI hxs hr ⊢;refine biE (fun hc=>?_) fun hc=>?_
 ·have hc:(!decide ((r:Int)=0))=true:=hc;have hc:¬ (r:Int)=0:=by simpa using hc
  have hr0:r≠0:=by omega
  obtain⟨e1,e2,_,_⟩:=jM hr0 hr;refine cmo (znl hTX hr0 hr) ?_;rintro e _ ⟨rfl,rfl⟩;have hpre:(pre++[ctz r]) <+: els s:=⟨els (jf r),by rw [hxs,e1];simp⟩;refine YieldR.mono (hy pre (ctz r) [i64 (ctz r:Nat)] F X hI ⟨ctz r,by simp,rfl⟩ hpre) ?_;rintro v V (⟨rfl,F',hJV,hKV⟩ | ⟨rfl,F',hJV⟩)
  ·refine brF ?_;have hXs:=hKV.size;have hgl:=zax hTX;have hTV:Tz64M V:=j0 hTX (hKV.same _ hgl hgX);have hgV:¬ F' 1:=fun h=>by
    rcases hKV.fp _ h with h3 | h3
    ·exact hgX h3
    ·omega
   exact⟨((r-1:Nat):Int),(zav (a:=(r:Int)-1) (by omega)).trans (by omega),((jf r:Nat):Int),zai (a:=r) (b:=r-1) hr (by omega),(pre++[ctz r],jf r),(cvE rfl rfl),⟨F',hJV,by rw [hxs,e1];simp,by show jf r<_;omega,hTV,hgV⟩,e2⟩
  ·exact brT ⟨⟨_,rfl⟩,.inr ⟨_,F',hpre,hJV⟩⟩
 ·have hc:(!decide ((r:Int)=0))=false:=hc;have hc:(r:Int)=0:=by simpa using hc
  obtain rfl:r=0:=by omega
  refine⟨⟨_,rfl⟩,.inl ?_⟩;rw [hxs,zaE,QM];exact⟨F,hI⟩
theorem joG {σ:Type} {n0:Nat} {F:Nat->Prop} {J:σ->Wd->Prop} (hF:∀ k,F k->k<n0) (hn:∀ s A,J s A->n0<=A.heap.size) (hJ:∀ s A B,J s A->Below n0 A B->J s B) :
  JG n0 (fun _=>False) (fun s F' W=>F'=F/\J s W):=by
 refine⟨fun s F' A B ⟨e,h⟩ hs=>⟨e,hJ s A B h ⟨hs.os,hs.tape,hs.output,hs.size,fun k hk=>hs.same k (nL hk (hn s A h)) (.inl ⟨hk,fun h=>h⟩)⟩⟩,fun s F' A k ⟨e,h⟩ hk=>?_⟩;subst e;exact⟨nL (hF k hk) (hn s A h),fun h=>h⟩
theorem jg {n:Nat} {A B:Wd} (h:Below n A B) {g:Nat} {o:Obj} (hg:g<n) (f:A.heap[g]?=some o):B.heap[g]?=some o:=(h.block g hg).trans f
theorem zbi {s:Nat} {w:Wd} (hs:s<2^64) (hT:Tz64M w):Calls PG 53 #[s64 s] w fun e w' =>
  e = .returned (.tuple #[i64 ((els s).headD 0:Nat),.bool (!(els s).isEmpty)])/\Bw w w':=by
 refine qX 9 [s64 s] (.c .p .p) Tryz.func53 ?_;obtain⟨L,hL⟩:=nm (w.heap.size);refine⟨Unit,fun _=>⟨[(0,s64 s),(2,At0 L),(3,At0 (L+1))],[]⟩,fun _ X=>X.heap[L]?=some (.cells #[i64 0] 3 (0,0))/\X.heap[L+1]?=some (.cells #[.bool false] 4 (0,0))/\X.heap.size=L+2/\Bw w X,?_,?_⟩
 ·have sz:=wz w (.cells #[i64 0] 3);refine⟨(),⟨.cons rfl (.cons (by rw [hL];rfl) (.cons (by rw [hL,<- sz];rfl) .nil)),rfl⟩,?_,?_,?_,?_⟩
  ·rw [hL];exact qG _ (zz w _)
  ·have:=zz (w.alloc (.cells #[i64 0] 3)) (.cells #[.bool false] 4);rw [sz,<- hL] at this;exact this
  ·have:=wz (w.alloc (.cells #[i64 0] 3)) (.cells #[.bool false] 4);rw [sz,<- hL] at this;exact this
  ·exact ((zba w _)).alloc (by simp) _
 rintro _ X ⟨f1,f2,sX,hbX⟩;refine cmo zgB ?_;rintro e W ⟨rfl,hW⟩;have hbW:Bw X W:=by rw [hW];exact (zba _ _)
 have fb:W.heap[X.heap.size]?=some (.cells #[s64 s] 45 (0,0)):=by rw [hW];exact zz X _
 have sW:W.heap.size=L+3:=by rw [hW,wz,sX]
 have g1:=zb hbW f1;have g2:=zb hbW f2;have hbw:Bw w W:=zst hbX hbW;have hTW:=hT.below hbw;clear hW;refine zcK (zbe _) rfl (lb := #[.pointer (some ⟨X.heap.size,0,none⟩)]) rfl rfl (zjO fb hs hTW) (UY _) (fun k hk=>⟨by rcases hk with (rfl | rfl) | h;exact hlt fb;exact zax hTW;exact h.elim,rfl⟩) (fun pre vs W ⟨c,_,h⟩=>by rw [h];rfl) (by decide)
  (fun k=>k=L\/k=L+1) (fun pre F Y=>F=(fun k=>k=L\/k=L+1)/\pre=[]/\W.heap.size<=Y.heap.size/\Y.heap[L]?=some (.cells #[i64 0] 3 (0,0))/\Y.heap[L+1]?=some (.cells #[.bool false] 4 (0,0))/\Bw w Y)
  (fun ex pre F Y=>F=(fun k=>k=L\/k=L+1)/\ex = .ret/\W.heap.size<=Y.heap.size/\(∃ c,pre=[c]/\Y.heap[L]?=some (.cells #[i64 (c:Nat)] 3 (0,0)))/\Y.heap[L+1]?=some (.cells #[.bool true] 4 (0,0))/\Bw w Y)
  (fun k hk h=>by have:=zax hT;rcases hk with rfl | rfl <;> omega)
  (joG (F:=fun k=>k=L\/k=L+1) (J:=fun (pre:List Nat) Y=>pre=[]/\W.heap.size<=Y.heap.size/\Y.heap[L]?=some (.cells #[i64 0] 3 (0,0))/\Y.heap[L+1]?=some (.cells #[.bool false] 4 (0,0))/\Bw w Y) (fun k h=>by omega) (fun s A h=>h.2.1) (fun pre A B ⟨h0,h1,h2,h3,h4⟩ hb=>⟨h0,UO h1 hb.size,jg hb (by omega) h2,jg hb (by omega) h3,h4.trans (hb.mono (by omega))⟩))
  (fun ex=>joG (F:=fun k=>k=L\/k=L+1) (J:=fun (pre:List Nat) Y=>ex = .ret/\W.heap.size<=Y.heap.size/\(∃ c,pre=[c]/\Y.heap[L]?=some (.cells #[i64 (c:Nat)] 3 (0,0)))/\Y.heap[L+1]?=some (.cells #[.bool true] 4 (0,0))/\Bw w Y) (fun k h=>by omega) (fun s A h=>h.2.1) (fun pre A B ⟨h0,h1,⟨c,hc,h2⟩,h3,h4⟩ hb=>⟨h0,UO h1 hb.size,⟨c,hc,jg hb (by omega) h2⟩,jg hb (by omega) h3,h4.trans (hb.mono (by omega))⟩))
  ⟨rfl,rfl,UY _,g1,g2,hbw⟩ ?_ ?_ ?_
 ·rintro yl pre x vs F V hyl hpre hJ ⟨x',hx',rfl⟩ hfy ⟨lo,hlo⟩;have hx':x=x':=by simpa using hx'
  subst hx';refine⟨rfl,F,KeepsG.refl _ _,hJ,?_⟩;rintro o V2 hV2 ⟨rfl,rfl,h1,h2,h3,h4⟩;refine zi k3 h2 (o:=0) (v:=i64 (x:Nat)) rfl rfl (by show 0<1;decide) rfl fun Y fY gY sY=>?_;have h3':=(gY.block (L+1) (hlt h3) (by simp)).trans h3;refine zi k4 h3' (o:=0) (v := .bool true) rfl rfl (by show 0<1;decide) rfl fun Z fZ gZ sZ=>?_;have fY':=(gZ.block L (hlt fY) (by simp)).trans fY;refine⟨_,⟨rfl,rfl,by omega,⟨x,rfl,fY'⟩,fZ,(h4.trans (zh gY (by omega) (by omega))).trans (zh gZ (by omega) (by omega))⟩,(KeepsG.grown (F:=fun k=>k=L\/k=L+1) gY (.inl rfl)).trans (KeepsG.grown gZ (.inr rfl))⟩
 ·rintro D F Y hD hfD ⟨_,h0,h1,h2,h3,h4⟩ hdef;refine zi k3 h2 (o:=0) (v:=i64 0) rfl rfl (by show 0<1;decide) rfl fun Y1 fY gY sY=>?_;have h3':=(gY.block (L+1) (hlt h3) (by simp)).trans h3;refine zi k4 h3' (o:=0) (v := .bool false) rfl rfl (by show 0<1;decide) rfl fun Z fZ gZ sZ=>?_;have fY':=(gZ.block L (hlt fY) (by simp)).trans fY;have hdef':=(gZ.block D (by rw [sY];exact hlt hdef) (by simp;omega)).trans ((gY.block D (hlt hdef) (by simp;omega)).trans hdef);refine⟨_,rfl,hdef',i64 0,?_,.bool false,?_,?_,?_⟩
  ·exact zc (za ((zg (by omega)).trans fY')) (i:=0) rfl
  ·exact zc (za ((zg (by omega)).trans fZ)) (i:=0) rfl
  ·rw [h0];rfl
  ·exact qP ((h4.trans (zh gY (by omega) (by omega))).trans (zh gZ (by omega) (by omega))) (by omega) _
 ·rintro D ex pre F Y hD hfD ⟨t,ht⟩ ⟨_,rfl,h1,⟨c,rfl,h2⟩,h3,h4⟩ hdef;refine⟨_,rfl,hdef,i64 (c:Nat),?_,.bool true,?_,?_,?_⟩
  ·exact zc (za ((zg (by omega)).trans h2)) (i:=0) rfl
  ·exact zc (za ((zg (by omega)).trans h3)) (i:=0) rfl
  ·rw [<- ht];rfl
  ·exact qP h4 (by omega) _
def zM:Enc UInt8:=⟨fun b=>[u8 b],1,fun _=>rfl,by decide,fun a u hu=>by
 simp only [UE,Qy,Gn] at hu;subst hu;rfl⟩
def zac (n:Int):Nat:=if n<1 then 0 else if 64<=n then 18446744073709551615 else 2^n.toNat-1
theorem zaG (n:Int):zac n<2^64:=by
 unfold zac
 split
 ·decide
 split
 ·decide
 ·have:=qb (k:=n.toNat) (by omega);omega
theorem zhU {n:Int} {w:Wd}:Calls PG 51 #[i64 n] w fun e w'=>e = .returned (s64 (zac n))/\w=w':=by
 refine zI 10 [i64 n] Tryz.func51 ?_;refine biE (fun h=>?_) fun h=>?_
 ·have h:n<1:=dT h;exact⟨by unfold zac;rw [Gr h];rfl,rfl⟩
 ·have h:¬ n<1:=dF h;refine biE (fun h2=>?_) fun h2=>?_
  ·have h2:64<=n:=dT h2;exact⟨by unfold zac;rw [Gq h,Gr h2];rfl,rfl⟩
  ·have h2:¬ 64<=n:=dF h2;obtain⟨k,rfl⟩:∃ k:Nat,n=k:=⟨n.toNat,by omega⟩;have hk:k<64:=by omega
   have hp:=qb hk;have hp0:=Uf k;refine⟨by omega,_,jI hk,?_⟩;refine⟨((2^k-1:Nat):Int),?_,?_⟩
   ·generalize 2^k=m at hp hp0 ⊢;exact (w64 (a:=(m:Int)-1) (by omega)).trans (by omega)
   ·exact⟨by unfold zac;rw [Gq h,Gq h2];rfl,rfl⟩
def zu:Enc Nat:=⟨fun n=>[i64 (n:Nat)],1,fun _=>rfl,by decide,fun a u hu=>by
 simp only [UE,Qy,Gn] at hu;subst hu;rfl⟩
theorem zek (s:Nat):(els s).length<=64:=by
 have:=JO (fun i=>s.testBit i) (List.range 64);rw [KY] at this;exact this
def zaA (to:Nat->Nat):List Value:=(List.range 48).map fun i=>s64 (to i)
def zj (r:RelD):List Value:=i64 r.n::zaA r.to
def zX (to:Nat->Nat):Prop:=∀ i,i<48->to i<2^64
theorem zaY (to:Nat->Nat):(zaA to).length=48:=by unfold zaA;rw [QQ,KY]
theorem zcn (to:Nat->Nat) {i:Nat} (h:i<48):(zaA to)[i]?=some (s64 (to i)):=by
 unfold zaA;rw [KX,Kk h];rfl
theorem zk (r:RelD):(zj r).length=49:=by unfold zj;rw [Qv,zaY]
theorem zia (r:RelD) {i:Nat} (h:i<48):(zj r)[1+i]?=some (s64 (r.to i)):=by
 unfold zj;rw [UM,Jy,zcn _ h]
theorem znH (to:Nat->Nat) {i:Nat} (h:i<48) (v:Nat):(zaA to).set i (s64 v)=zaA (upd to i v):=by
 apply KT;intro j;by_cases hj:j<48
 ·rw [zcn _ hj];by_cases e:i=j
  ·subst e;rw [JH (by rw [zaY];exact h),zE]
  ·rw [JY e,zcn _ hj,zV _ _ (fun h=>e h.symm)]
 ·rw [JM (by rw [QS,zaY];omega),JM (by rw [zaY];omega)]
theorem zdY (r:RelD) {i:Nat} (h:i<48) (v:Nat):(zj r).set (1+i) (s64 v)=zj ⟨r.n,upd r.to i v⟩:=by
 unfold zj;rw [UM,KF,znH _ h]
theorem qo (r:RelD):(zj r).all Value.oneCell'=true:=by
 unfold zj zaA;rw [UC,List.all_map];rw [bAT,Qm];exact⟨rfl,fun x _=>rfl⟩
theorem zoO {S:Sig} {g:Nat} {caps:Array Value} {vs:List Value} {w:Wd} {K:Value->Wd->Prop} {KP:List PanicEntry->Wd->Prop} {R:Ending->Wd->Prop} (hok:zag S g=true)
  (h:Calls S.P g (vs++caps.toList).toArray w R) (k:∀ e w',R e w'->∃ v,e = .returned v/\K v w'):zl3 S (.func (.func g) #[] caps) vs w K KP:=by
 unfold zl3;dsimp only;rw [hok];exact CallR.mk h k
theorem zan (n:Int):jO n=zac n:=rfl
theorem za0 (a b:Nat):jE a b=qa a b:=rfl
section
variable {r:RelD} {w:Wd}
theorem zaZ (hr:zX r.to):CB 31 #[.agg (zj r).toArray] w (.bool (okR r)):=by
 refine zI 38 [.agg (zj r).toArray] Tryz.func31 ?_;have f0:=zz w (.cells (zj r).toArray 48);have hb:Bw w (w.alloc (.cells (zj r).toArray 48)):=zba w _;obtain⟨X,hX⟩:=nm (w.alloc (.cells (zj r).toArray 48));have hX':w.alloc (.cells (Value.agg (zj r).toArray).cells 48)=X:=hX.symm;rw [<- hX] at f0 hb;have hn:X.cell? ⟨w.heap.size,0+0,none⟩=some (i64 r.n):=zc (za f0) (i:=0) rfl;have out:∀ b,okR r=b->(∀ h:Ending.returned (.bool b)=Ending.returned (.bool (okR r)),True):=fun _ _ _=>trivial;refine⟨i64 r.n,by rw [hX'];exact hn,?_⟩;rw [hX'];refine biE (fun h=>?_) fun h=>?_
 ·have h:r.n<0:=dT h;refine brT ?_;exact⟨rb (by unfold okR;rw [Uj (by omega)];rfl),hb⟩
 have h:¬ r.n<0:=dF h;refine⟨i64 r.n,hn,?_⟩;refine biE (fun h2=>?_) fun h2=>?_
 ·have h2:(48:Int)<r.n:=dT h2;exact⟨rb (by unfold okR;rw [Uj (show ¬ r.n<=48 by omega),Ul,Uk]),hb⟩
 have h2:¬ (48:Int)<r.n:=dF h2;have ok0:okR r=(List.range 48).all (zbs r):=by
  unfold okR;rw [Uu (by omega),Uu (by omega)];rfl
 rw [ok0];refine⟨i64 r.n,hn,?_⟩;refine cmo zhU ?_;rintro e _ ⟨rfl,rfl⟩;refine⟨zaA r.to,zaY _,?_,hlt f0,?_⟩
 ·have:=zK (n:=1) (m:=48) (za f0);have e:((zj r).toArray.toList.drop 1).take 48=zaA r.to:=by
   show (zaA r.to).take 48=_;rw [JJ (by rw [zaY];exact UY _)]
  rw [e] at this;exact this
 refine⟨Nat,fun k=>⟨[(1,.pointer (some ⟨w.heap.size,0,none⟩)),(3,s64 (zac r.n)),(18,.agg (zaA r.to).toArray),(19,i64 (k:Nat))],[]⟩,fun k Y=>X=Y/\k<=48/\∀ i,i<k->zbs r i=true,fun k=>48-k,0,
  (cvE rfl rfl),⟨rfl,Gb _,fun i hi=>by omega⟩,?_⟩
 rintro k _ ⟨rfl,hk,hall⟩;refine biE (fun hc=>?_) fun hc=>?_
 ·have hc:(k:Int)<48:=dT hc;have hk':k<48:=by omega
  refine⟨k,rfl,hk',?_⟩;refine zae (by rw [UZ];exact zcn _ hk') ?_;refine⟨_,zaX (hr k hk') (zaG _),?_⟩;have no:zbs r k=false->(List.range 48).all (zbs r)=false:=fun h=>by
   rw [KQ];exact⟨k,Uq.2 hk',by rw [h];exact Kx⟩
  refine biE (fun h3=>?_) fun h3=>?_
  ·have h3:(!decide (((qa (r.to k) (zac r.n):Nat):Int)=0))=true:=h3;have h3:¬ jE (r.to k) (jO r.n)=0:=fun e=>by
    rw [za0,zan] at e;rw [e] at h3;exact Gs h3 (by decide)
   refine brT ?_;exact⟨rb (no (by unfold zbs;rw [Uj h3];rfl)).symm,hb⟩
  have h3:(!decide (((qa (r.to k) (zac r.n):Nat):Int)=0))=false:=h3;have h3:jE (r.to k) (jO r.n)=0:=by
   have h4:decide (((qa (r.to k) (zac r.n):Nat):Int)=0)=true:=by simpa using h3
   exact UB (dT h4)
  refine⟨i64 r.n,hn,?_⟩;have next:zbs r k=true->∀ {K:Prop},(∀ k',k'=k+1->(∀ i,i<k'->zbs r i=true)->K)->K:=fun h K hK=>hK _ rfl fun i hi=>by
   by_cases e:i=k
   ·rw [e];exact h
   ·exact hall i (by omega)
  have fin:zbs r k=true->∃ s':Nat,s'=k+1/\(X=X/\s'<=48/\∀ i,i<s'->zbs r i=true):=fun h=>next h fun k' e h=>⟨k',e,rfl,by omega,h⟩
  refine biE (fun h4=>?_) fun h4=>?_
  ·have h4:r.n<=(k:Int):=dT h4;refine biE (fun h5=>?_) fun h5=>?_
   ·have h5:(!decide (((r.to k:Nat):Int)=0))=true:=h5;have h5:¬ r.to k=0:=fun e=>by
     rw [e] at h5;exact Gs h5 (by decide)
    exact⟨rb (no (by unfold zbs;rw [Uu h3,Uj (by omega),Uj h5];rfl)).symm,hb⟩
   ·have h5:(!decide (((r.to k:Nat):Int)=0))=false:=h5;have h5:r.to k=0:=by
     have h6:decide (((r.to k:Nat):Int)=0)=true:=(by simpa using h5);exact UB (dT h6)
    obtain⟨s',e,hs⟩:=fin (by unfold zbs;rw [Uu h3,Uu h5];simp);refine nxI (by omega) ?_;exact⟨s',⟨.cons rfl (.cons rfl (.cons rfl (.cons (by rw [e];rfl) .nil))),rfl⟩,hs,by show 48-s'<48-k;omega⟩
  ·have h4:¬ r.n<=(k:Int):=dF h4;refine brF ?_;obtain⟨s',e,hs⟩:=fin (by unfold zbs;rw [Uu h3,Uu (by omega)];rfl);refine nxI (by omega) ?_;exact⟨s',⟨.cons rfl (.cons rfl (.cons rfl (.cons (by rw [e];rfl) .nil))),rfl⟩,hs,by show 48-s'<48-k;omega⟩
 ·have hc:¬ (k:Int)<48:=dF hc;obtain rfl:k=48:=by omega
  refine⟨rb ?_,hb⟩;symm;rw [Qm];exact fun i hi=>hall i (Uq.1 hi)
theorem zql {n g:Nat} {caps:Array Value} {row:Nat->Nat} (hn:n<=48) (hok:zag (sg 0) g=true) (zec:∀ a X,a<n->Bw w X->Calls PG g (i64 (a:Nat)::caps.toList).toArray X fun e Y=>e = .returned (s64 (row a))/\Bw X Y) :
  CB 110 #[i64 n,.func (.func g) #[] caps] w (.agg (zj (zbA n row)).toArray):=by
 refine qX 21 [i64 n,.func (.func g) #[] caps] (.s .p (.c .p .p)) Tryz.func110 ?_;obtain⟨L,hL⟩:=nm (w.heap.size);refine⟨Unit,fun _=>⟨[(0,i64 n),(1,.func (.func g) #[] caps),(4,At0 L),(5,At0 (L+1))],[]⟩,fun _ X=>X.heap[L]?=some (.cells (zj jr).toArray 48 (0,0))/\X.heap[L+1]?=some (.cells (zj ⟨n,fun _=>0⟩).toArray 48 (0,0))/\X.heap.size=L+2/\Bw w X,?_,?_⟩
 ·have h1:=zz w (.cells (zj jr).toArray 48);have s1:=wz w (.cells (zj jr).toArray 48);have h2:=zz (w.alloc (.cells (zj jr).toArray 48)) (.cells (zj jr).toArray 48);have s2:=wz (w.alloc (.cells (zj jr).toArray 48)) (.cells (zj jr).toArray 48);have b2:Bw w ((w.alloc (.cells (zj jr).toArray 48)).alloc (.cells (zj jr).toArray 48)):=((zba w _)).alloc (by simp) _;refine⟨zj ⟨n,fun _=>0⟩,rfl,?_⟩;refine zJ (v := .agg (zj ⟨n,fun _=>0⟩).toArray) k48 h2 rfl rfl (qo _) ?_;rw [s1] at h2 s2;refine⟨(),⟨.cons rfl (.cons rfl (.cons (by rw [hL];rfl) (.cons (by rw [hL,<- s1];rfl) .nil))),rfl⟩,?_,?_,?_,?_⟩
  ·rw [hL];exact (zr (by rw [s1];omega)).trans (qG _ h1)
  ·rw [hL,s1];exact zA h2
  ·rw [hL];simp
  ·exact zC b2 (by omega) _
 rintro _ X ⟨f0,f1,sX,hbX⟩;refine⟨Nat,fun k=>⟨[(1,.func (.func g) #[] caps),(4,At0 L),(5,At0 (L+1)),(9,i64 n),(10,i64 (k:Nat))],[]⟩,fun k Y=>k<=n/\Y.heap[L]?=some (.cells (zj jr).toArray 48 (0,0))/\Y.heap[L+1]?=some (.cells (zj (⟨n,fun i=>if i<k then row i else 0⟩)).toArray 48 (0,0))/\Bw w Y,fun k=>n-k,0,
  (cvE rfl rfl),⟨Gb _,f0,f1,hbX⟩,?_⟩
 clear f0 f1 sX hbX X;rintro k X ⟨hk,f0,f1,hbX⟩;refine biE (fun hc=>?_) fun hc=>?_
 ·have hc:(k:Int)<(n:Int):=dT hc;have hkn:k<n:=by omega
  refine zoO (S:=sg 21) hok (zec k X hkn hbX) ?_;rintro e Y ⟨rfl,hbY⟩;refine⟨_,rfl,?_⟩;refine⟨k,rfl,by omega,?_⟩;have f1Y:=zb hbY f1;refine zi k45 f1Y (o:=0+1+k*1) (v:=s64 (row k)) rfl rfl (by rw [zk];omega) rfl fun Z fZ gZ sZ=>?_;rw [UT,UZ,zdY _ (by omega)] at fZ;refine nxI (by omega) ?_;refine⟨k+1,(cvE rfl rfl),⟨hkn,(gZ.block L (hlt (zb hbY f0)) (by simp)).trans (zb hbY f0),?_,((zst hbX hbY)).trans (zh gZ ((zst hbX hbY)).size (by omega))⟩,zdc (by omega)⟩;have e:upd (fun i=>if i<k then row i else 0) k (row k)=fun i=>if i<k+1 then row i else 0:=by
   funext i;by_cases e:i=k
   ·subst e;rw [zE,Gr (by omega)]
   ·rw [zV _ _ e];by_cases h:i<k
    ·rw [Gr h,Gr (by omega)]
    ·rw [Gq h,Gq (by omega)]
  rw [<- e];exact fZ
 ·have hc:¬ (k:Int)<(n:Int):=dF hc;obtain rfl:k=n:=by omega
  refine⟨zj (zbA k row),zk _,za f1,hlt f1,?_⟩;refine zJ (v := .agg (zj (zbA k row)).toArray) k48 f0 rfl rfl (qo _) ?_;exact⟨zj (zbA k row),zk _,za (zA f0),rfl,zC hbX (by omega) _⟩
end
def evE:Enc Ev:=⟨fun e=>[i64 e.th,u8 e.k,u8 e.l,u8 e.v,u8 e.m,u8 e.i,u8 e.p],7,fun _=>rfl,by decide,fun a u hu=>by
 simp only [UE,Qy,Gn] at hu;rcases hu with rfl | rfl | rfl | rfl | rfl | rfl | rfl <;> rfl⟩
def seg (n:Nat) (f:Nat->Value):List Value:=(List.range n).map f
def zdI (f:Nat->Ev):List Value:=((List.range 24).map f).flatMap evE.enc
def qB (R:RunD):List Value:=i64 R.pc::(seg 8 (fun i=>u8 (R.regs i))++(seg 8 (fun i=>s32 (R.deps i))++([s32 R.ctl,i64 R.many]++(zdI R.ev ++
 (seg 24 (fun i=>s32 (R.data i))++(seg 24 (fun i=>s32 (R.ctrl i))++seg 24 (fun i=>s32 (R.att i))))))))
theorem zw (n:Nat) (f:Nat->Value):(seg n f).length=n:=by unfold seg;rw [QQ,KY]
theorem zbO (f:Nat->Ev):(zdI f).length=168:=by
 unfold zdI;rw [qp,QQ,KY];rfl
theorem zbo {n:Nat} (f:Nat->Value) {i:Nat} (h:i<n):(seg n f)[i]?=some (f i):=by
 unfold seg;rw [KX,Kk h];rfl
theorem zh2 {n:Nat} (f g:Nat->Value) {i:Nat} (h:i<n) (hg:g i=g i) (hs:∀ j,j≠i->g j=f j):(seg n f).set i (g i)=seg n g:=by
 apply KT;intro j;by_cases hj:j<n
 ·rw [zbo g hj];by_cases e:i=j
  ·subst e;rw [JH (by rw [zw];exact h)]
  ·rw [JY e,zbo f hj,hs j (fun h=>e h.symm)]
 ·rw [JM (by rw [QS,zw];omega),JM (by rw [zw];omega)]
theorem jm {A B:List Value} {n i:Nat} (h:A.length=n):(A++B)[n+i]?=B[i]?:=by
 rw [Jn (by omega),h,JA]
theorem zfx {B:List Value} {n i:Nat} {f:Nat->Value} (h:i<n):(seg n f++B)[i]?=some (f i):=by
 rw [Jr (by rw [zw];exact h),zbo f h]
theorem qs {A B:List Value} {n i:Nat} (h:A.length=n) {v:Value}:(A++B).set (n+i) v=A++B.set i v:=by
 rw [JR _ _ (by omega),h,JA]
theorem zc4 {B:List Value} {n i:Nat} {f:Nat->Value} (g:Nat->Value) (h:i<n) (hs:∀ j,j≠i->g j=f j):(seg n f++B).set i (g i)=seg n g++B:=by
 rw [List.set_append_left _ _ (by rw [zw];exact h),zh2 f g h rfl hs]
theorem jt (R:RunD):(qB R).length=259:=by
 unfold qB;simp only [Qv,lap,zw,zbO,QR]
section
variable (R:RunD)
theorem zpo {i:Nat} (h:i<8):(qB R)[1+i]?=some (u8 (R.regs i)):=by
 unfold qB;rw [UM,Jy,zfx h]
theorem zpp {i:Nat} (h:i<8):(qB R)[9+i]?=some (s32 (R.deps i)):=by
 unfold qB;rw [show 9+i=(8+i)+1 by omega,Jy,jm (zw _ _),zfx h]
theorem zfO:∃ A,A.length=16/\qB R=i64 R.pc::(A++([s32 R.ctl,i64 R.many]++(zdI R.ev++(seg 24 (fun i=>s32 (R.data i))++(seg 24 (fun i=>s32 (R.ctrl i))++seg 24 (fun i=>s32 (R.att i))))))) :=
 ⟨seg 8 (fun i=>u8 (R.regs i))++seg 8 (fun i=>s32 (R.deps i)),by rw [lap,zw,zw],by unfold qB;rw [KS]⟩
theorem zlq:(qB R)[17]?=some (s32 R.ctl):=by
 obtain⟨A,hA,e⟩:=zfO R;rw [e];exact (jm (i:=0) hA).trans rfl
theorem zbr:(qB R)[18]?=some (i64 R.many):=by
 obtain⟨A,hA,e⟩:=zfO R;rw [e];exact (jm (i:=1) hA).trans rfl
theorem zi9 {i:Nat} (h:i<24):(qB R)[187+i]?=some (s32 (R.data i)):=by
 obtain⟨A,hA,e⟩:=zfO R;rw [e,show 187+i=(16+(2+(168+i)))+1 by omega,Jy,jm hA,jm (A:=[s32 R.ctl,i64 R.many]) (n:=2) rfl,jm (zbO _),zfx h]
theorem zja {i:Nat} (h:i<24):(qB R)[211+i]?=some (s32 (R.ctrl i)):=by
 obtain⟨A,hA,e⟩:=zfO R;rw [e,show 211+i=(16+(2+(168+(24+i))))+1 by omega,Jy,jm hA,jm (A:=[s32 R.ctl,i64 R.many]) (n:=2) rfl,jm (zbO _),jm (zw _ _),zfx h]
theorem zh4 {i:Nat} (h:i<24):(qB R)[235+i]?=some (s32 (R.att i)):=by
 obtain⟨A,hA,e⟩:=zfO R;rw [e,show 235+i=(16+(2+(168+(24+(24+i)))))+1 by omega,Jy,jm hA,jm (A:=[s32 R.ctl,i64 R.many]) (n:=2) rfl,jm (zbO _),jm (zw _ _),jm (zw _ _),zbo _ h]
theorem zfP (n:Nat):(qB R).set 0 (i64 n)=qB { R with pc:=n }:=rfl
theorem zi5 {i:Nat} (h:i<8) (v:UInt8):(qB R).set (1+i) (u8 v)=qB { R with regs:=upd R.regs i v }:=by
 unfold qB;rw [UM,KF];have:=zc4 (B:=seg 8 (fun i=>s32 (R.deps i))++([s32 R.ctl,i64 R.many]++(zdI R.ev++(seg 24 (fun i=>s32 (R.data i))++(seg 24 (fun i=>s32 (R.ctrl i))++seg 24 (fun i=>s32 (R.att i))))))) (f:=fun i=>u8 (R.regs i)) (fun j=>u8 (upd R.regs i v j)) h (fun j hj=>by rw [zV _ _ hj]);rw [zE] at this;rw [this]
theorem zi6 {i:Nat} (h:i<8) (v:Nat):(qB R).set (9+i) (s32 v)=qB { R with deps:=upd R.deps i v }:=by
 unfold qB;rw [show 9+i=(8+i)+1 by omega,KF,qs (zw _ _)];have:=zc4 (B:=[s32 R.ctl,i64 R.many]++(zdI R.ev++(seg 24 (fun i=>s32 (R.data i))++(seg 24 (fun i=>s32 (R.ctrl i))++seg 24 (fun i=>s32 (R.att i)))))) (f:=fun i=>s32 (R.deps i)) (fun j=>s32 (upd R.deps i v j)) h (fun j hj=>by rw [zV _ _ hj]);rw [zE] at this;rw [this]
theorem zi7 (v:Nat):(qB R).set 17 (s32 v)=qB { R with ctl:=v }:=by
 unfold qB;show i64 R.pc::(seg 8 (fun i=>u8 (R.regs i))++_).set (8+(8+0)) (s32 v)=_;rw [qs (zw _ _),qs (zw _ _)];rfl
theorem zh3 (v:Nat):(qB R).set 18 (i64 v)=qB { R with many:=v }:=by
 unfold qB;show i64 R.pc::(seg 8 (fun i=>u8 (R.regs i))++_).set (8+(8+1)) (i64 v)=_;rw [qs (zw _ _),qs (zw _ _)];rfl
theorem zdT {i:Nat} (h:i<24) (v:Nat):(qB R).set (187+i) (s32 v)=qB { R with data:=upd R.data i v }:=by
 unfold qB;rw [show 187+i=(8+(8+(2+(168+i))))+1 by omega,KF,qs (zw _ _),qs (zw _ _),qs (A:=[s32 R.ctl,i64 R.many]) (n:=2) rfl,qs (zbO _)];have:=zc4 (B:=seg 24 (fun i=>s32 (R.ctrl i))++seg 24 (fun i=>s32 (R.att i))) (f:=fun i=>s32 (R.data i)) (fun j=>s32 (upd R.data i v j)) h (fun j hj=>by rw [zV _ _ hj]);rw [zE] at this;rw [this]
theorem zdU {i:Nat} (h:i<24) (v:Nat):(qB R).set (211+i) (s32 v)=qB { R with ctrl:=upd R.ctrl i v }:=by
 unfold qB;rw [show 211+i=(8+(8+(2+(168+(24+i)))))+1 by omega,KF,qs (zw _ _),qs (zw _ _),qs (A:=[s32 R.ctl,i64 R.many]) (n:=2) rfl,qs (zbO _),qs (zw _ _)];have:=zc4 (B:=seg 24 (fun i=>s32 (R.att i))) (f:=fun i=>s32 (R.ctrl i)) (fun j=>s32 (upd R.ctrl i v j)) h (fun j hj=>by rw [zV _ _ hj]);rw [zE] at this;rw [this]
theorem zi8 {i:Nat} (h:i<24) (v:Nat):(qB R).set (235+i) (s32 v)=qB { R with att:=upd R.att i v }:=by
 unfold qB;rw [show 235+i=(8+(8+(2+(168+(24+(24+i))))))+1 by omega,KF,qs (zw _ _),qs (zw _ _),qs (A:=[s32 R.ctl,i64 R.many]) (n:=2) rfl,qs (zbO _),qs (zw _ _),qs (zw _ _)];have:=zh2 (fun i=>s32 (R.att i)) (fun j=>s32 (upd R.att i v j)) h rfl (fun j hj=>by rw [zV _ _ hj]);rw [zE] at this;rw [this]
theorem zpD {α:Type} (f:Nat->α) {n i:Nat} (h:i<n) (v:α):((List.range n).map f).set i v=(List.range n).map (upd f i v):=by
 apply KT;intro j;by_cases hj:j<n
 ·rw [KX,Kk hj];by_cases e:i=j
  ·subst e;rw [JH (by simpa using h)];show _=some (upd f i v i);rw [zE]
  ·rw [JY e,KX,Kk hj];show some (f j)=some (upd f i v j);rw [zV _ _ (fun h=>e h.symm)]
 ·rw [JM (by simp;omega),JM (by simp;omega)]
theorem zko {i:Nat} (h:i<24) (v:Ev):(qB R).take (19+i*7)++evE.enc v++(qB R).drop (19+i*7+7)=qB { R with ev:=upd R.ev i v }:=by
 obtain⟨A,hA,e⟩:∃ A:List Value,A.length=19/\∀ ev,qB { R with ev:=ev }=A++(zdI ev++(seg 24 (fun i=>s32 (R.data i))++(seg 24 (fun i=>s32 (R.ctrl i))++seg 24 (fun i=>s32 (R.att i))))) :=
  ⟨i64 R.pc::(seg 8 (fun i=>u8 (R.regs i))++(seg 8 (fun i=>s32 (R.deps i))++[s32 R.ctl,i64 R.many])),by
   simp only [Qv,lap,zw,QR],fun ev=>by
   unfold qB;simp only [Qo,KS,QW]⟩
 have e1:qB R=_:=e R.ev;rw [e1,e,<- hA,List.take_length_add_append,UF,Jk];have:=zjJ (E:=evE) ((List.range 24).map R.ev) (i:=i) (by simpa using h) v (seg 24 (fun i=>s32 (R.data i))++(seg 24 (fun i=>s32 (R.ctrl i))++seg 24 (fun i=>s32 (R.att i))));rw [zpD _ h] at this;unfold zdI;rw [KS,KS,<- this,KS];rfl
end
theorem zot (f:Nat->Ev) {i:Nat} (h:i<24):((zdI f).drop (i*7)).take 7=evE.enc (f i):=by
 unfold zdI;have:=zef (E:=evE) ((List.range 24).map f) i (by simpa using h);rw [Qt,KB] at this;exact this
theorem zlp {R:RunD} {w:Wd} {b:Nat} {t:TypeId} (f:w.heap[b]?=some (.cells (qB R).toArray t (0,0))):zx w ⟨b,19,none⟩ (zdI R.ev):=by
 have h:=za f;unfold qB at h;have h1:=zK (n:=19) (m:=168) h;have e:((i64 R.pc::(seg 8 (fun i=>u8 (R.regs i))++(seg 8 (fun i=>s32 (R.deps i))++([s32 R.ctl,i64 R.many]++(zdI R.ev++(seg 24 (fun i=>s32 (R.data i))++(seg 24 (fun i=>s32 (R.ctrl i))++seg 24 (fun i=>s32 (R.att i))))))))).drop 19).take 168=zdI R.ev:=by
  show ((seg 8 (fun i=>u8 (R.regs i))++_).drop (8+(8+2))).take 168=_;have d:∀ {A B:List Value} {n i:Nat},A.length=n->(A++B).drop (n+i)=B.drop i:=fun {A B n i} h=>by rw [<- h,Jk]
  rw [d (zw _ _),d (zw _ _)];show (zdI R.ev++_).take 168=_;rw [QZ (zbO _)]
 rw [<- e];exact h1
def bs (l:List UInt8):ByteArray:=⟨l.toArray⟩
def qk (l:List UInt8):Value := .string (bs l)
theorem zqm (l:List UInt8):(bs l).data.toList=l:=rfl
theorem jc (x y:Operand) (a b:List UInt8) (w:Wd):(do eqGuard .eql 9 x y (qk a) (qk b);binOp .eql 9 (qk a) (qk b)).run PG w = .ok (.bool (decide (a=b))) w:=by
 have h1:(eqGuard .eql 9 x y (qk a) (qk b)).run PG w = .ok () w:=rfl;rw [UV,h1,Qd];show (Op.stringOp .eql (bs a) (bs b)).run PG w=_;simp only [Op.stringOp,UW,ByteArray.toList_eq,zqm];have hd:(a == b)=decide (a=b):=by by_cases h:a=b <;> simp [h]
 rw [hd]
def zjx:Enc (List UInt8):=⟨fun l=>[qk l],1,fun _=>rfl,by decide,fun a u hu=>by
 simp only [UE,Qy,Gn] at hu;subst hu;rfl⟩
def zH:Enc InsD:=⟨fun x=>[u8 x.op,u8 x.dst,u8 x.loc,.bool x.ar,u8 x.an,.bool x.br,u8 x.bn,u8 x.fn,u8 x.mode,u8 x.skip],10,fun _=>rfl,by decide,fun a u hu=>by
 simp only [UE,Qy,Gn] at hu;rcases hu with rfl | rfl | rfl | rfl | rfl | rfl | rfl | rfl | rfl | rfl <;> rfl⟩
abbrev zla:=List InsD×OA×Nat
def zi0 (x:zla):Value := .slice x.2.1 x.1.length x.2.2
def zns:Enc zla:=⟨fun x=>[zi0 x],1,fun _=>rfl,by decide,fun a u hu=>by
 simp only [UE,Qy,Gn] at hu;subst hu;rfl⟩
def jN (c:Cnd) (p:OA) (cap:Nat):List Value:=[u8 c.kind,u8 c.thread,u8 c.n,u8 c.val,.slice p c.kids.length cap]
inductive KidsV (B:Nat) (w:Wd):OA->List Cnd->Prop
 | mk (p:OA) (kids:List Cnd) (hn:kids.length*32<=140737488351232) (b o:Nat) (hp:kids.length=0\/p=some ⟨b,o,none⟩) (q:Nat->OA) (c:Nat->Nat)
   (hk:∀ i (h:i<kids.length),b<B/\zx w ⟨b,o+i*5,none⟩ (jN kids[i] (q i) (c i)))
   (ht:∀ i (h:i<kids.length),KidsV B w (q i) kids[i].kids):KidsV B w p kids
theorem KidsV.inv {B:Nat} {w:Wd} {p:OA} {kids:List Cnd} (h:KidsV B w p kids):kids.length*32<=140737488351232/\∃ b o,(kids.length=0\/p=some ⟨b,o,none⟩) /\
  ∀ i (h:i<kids.length),∃ q c,b<B/\zx w ⟨b,o+i*5,none⟩ (jN kids[i] q c)/\KidsV B w q kids[i].kids:=by
 cases h with
 | mk _ _ hn b o hp q c hk ht=>exact⟨hn,b,o,hp,fun i hi=>⟨q i,c i,(hk i hi).1,(hk i hi).2,ht i hi⟩⟩
theorem KidsV.kept {B:Nat} {w w2:Wd} {p:OA} {kids:List Cnd} (h:KidsV B w p kids) (hb:Below B w w2):KidsV B w2 p kids:=by
 induction h with
 | mk p kids hn b o hp q c hk ht ih=>exact .mk p kids hn b o hp q c (fun i hi=>⟨(hk i hi).1,jK hb (hk i hi).1 (hk i hi).2⟩) ih
theorem KidsV.wider {B B':Nat} {w:Wd} {p:OA} {kids:List Cnd} (h:KidsV B w p kids) (hb:B<=B'):KidsV B' w p kids:=by
 induction h with
 | mk p kids hn b o hp q c hk ht ih=>exact .mk p kids hn b o hp q c (fun i hi=>⟨nL (hk i hi).1 hb,(hk i hi).2⟩) ih
def ThrsV (B:Nat) (w:Wd) (p:OA) (l:List (List InsD)):Prop:=∃ xs:List zla,xs.map (·.1)=l/\RowB zns B w p xs/\∀ x∈xs,RowB zH B w x.2.1 x.1
theorem ThrsV.below {B:Nat} {w w2:Wd} {p:OA} {l:List (List InsD)} (h:ThrsV B w p l) (hb:Below B w w2):ThrsV B w2 p l:=by
 obtain⟨xs,h1,h2,h3⟩:=h;exact⟨xs,h1,h2.below hb,fun x hx=>(h3 x hx).below hb⟩
theorem ThrsV.mono {B B':Nat} {w:Wd} {p:OA} {l:List (List InsD)} (h:ThrsV B w p l) (hb:B<=B'):ThrsV B' w p l:=by
 obtain⟨xs,h1,h2,h3⟩:=h;exact⟨xs,h1,h2.mono hb,fun x hx=>(h3 x hx).mono hb⟩
def qA (p:Prg) (p1:OA) (c1:Nat) (p2:OA) (c2:Nat) (p3:OA) (c3:Nat) (p4:OA) (c4:Nat):List Value :=
 [qk p.name,.slice p1 p.locs.length c1,.slice p2 p.init.length c2,.slice p3 p.threads.length c3,u8 p.ask,u8 p.cond.kind,u8 p.cond.thread,u8 p.cond.n,u8 p.cond.val,.slice p4 p.cond.kids.length c4]
structure PrgLen (p:Prg):Prop where
 name:p.name.length<=140737488351232
 locs:p.locs.length<=140737488351232
 loc:∀ s∈p.locs,s.length<=140737488351232
 init:p.init.length<=140737488351232
 threads:p.threads.length<=140737488351232
 thread:∀ l∈p.threads,l.length<=140737488351232
structure PrgV (B:Nat) (w:Wd) (vs:List Value) (p:Prg):Prop where
 len:PrgLen p
 h:∃ p1 c1 p2 c2 p3 c3 p4 c4,vs=qA p p1 c1 p2 c2 p3 c3 p4 c4/\RowB zjx B w p1 p.locs/\RowB zM B w p2 p.init/\ThrsV B w p3 p.threads/\KidsV B w p4 p.cond.kids/\p.locs.length<=c1
theorem PrgV.below {B:Nat} {w w2:Wd} {vs:List Value} {p:Prg} (h:PrgV B w vs p) (hb:Below B w w2):PrgV B w2 vs p:=by
 obtain⟨p1,c1,p2,c2,p3,c3,p4,c4,h0,h1,h2,h3,h4,h5⟩:=h.h;exact⟨h.len,p1,c1,p2,c2,p3,c3,p4,c4,h0,h1.below hb,h2.below hb,h3.below hb,h4.kept hb,h5⟩
theorem PrgV.mono {B B':Nat} {w:Wd} {vs:List Value} {p:Prg} (h:PrgV B w vs p) (hb:B<=B'):PrgV B' w vs p:=by
 obtain⟨p1,c1,p2,c2,p3,c3,p4,c4,h0,h1,h2,h3,h4,h5⟩:=h.h;exact⟨h.len,p1,c1,p2,c2,p3,c3,p4,c4,h0,h1.mono hb,h2.mono hb,h3.mono hb,h4.wider hb,h5⟩
theorem PrgV.size {B:Nat} {w:Wd} {vs:List Value} {p:Prg} (h:PrgV B w vs p):vs.length=10:=by
 obtain⟨p1,c1,p2,c2,p3,c3,p4,c4,rfl,_⟩:=h.h;rfl
theorem w8N (u:Nat):IntKind.u8.wrap (u:Int)=((UInt8.ofNat u).toNat:Int):=by
 rw [KK];unfold IntKind.wrap;simp only [IntKind.bits,IntKind.signed,Ul,Kw,Gm];omega
abbrev jq (X:Wd) (b:Nat) (R:RunD):Prop:=X.heap[b]?=some (.cells (qB R).toArray 112 (0,0))
abbrev AtR (b:Nat):Value:=At0 b
section
variable {R:RunD} {b:Nat} {w:Wd}
theorem zeQ {k l v m:UInt8} {d:Nat} (f:jq w b R) (hm:R.many<24):Calls PG 133 #[AtR b,u8 k,u8 l,u8 v,u8 m,s32 d] w fun e w' =>
  e = .returned (i64 R.many)/\jq w' b (zaM R k l v m d)/\w.grownBy w' (some b)/\w'.heap.size=w.heap.size:=by
 refine zI 58 [AtR b,u8 k,u8 l,u8 v,u8 m,s32 d] Tryz.func133 ?_;refine⟨_,zc (za f) (i:=18) (zbr R),?_⟩;refine DrawE.ord [17] [0,1,2,3,4,5,6,7,8,9,10,11,12,13,14,15,16,17] (by kernel_rfl) ?_;refine⟨_,zc (za (hdr f)) (i:=0) rfl,?_⟩;refine⟨_,w8N _,?_⟩;refine⟨_,w8N _,?_⟩;obtain⟨ev,hev⟩:∃ ev:Ev,ev=⟨0,k,l,v,m,UInt8.ofNat R.pc,UInt8.ofNat R.many⟩:=⟨_,rfl⟩;refine⟨evE.enc ev,by rw [hev];rfl,?_⟩;refine⟨R.many,rfl,hm,?_⟩;refine jU k60 (hdr f) (o:=0+19+R.many*7) (v := .agg (evE.enc ev).toArray) rfl (by
  show 0+19+R.many*7+7<=(qB R).length;rw [jt];omega) rfl fun Y fY gY sY=>?_
 have fY:jq Y b { R with ev:=upd R.ev R.many ev }:=by
  show Y.heap[b]?=some (.cells (qB { R with ev:=upd R.ev R.many ev }).toArray 112 (0,0));rw [<- zko R hm ev,fY,UT];rfl
 refine⟨R.many,rfl,hm,?_⟩;refine zi zkK fY (o:=0+187+R.many*1) (v:=s32 d) rfl rfl (by rw [jt];omega) rfl fun Z fZ gZ sZ=>?_;rw [UT,UZ,zdT _ hm] at fZ;refine DrawE.ord [9] [0,1,2,3,4,5,6,7,8,9] (by kernel_rfl) ?_;refine⟨_,zc (za (hdr fZ)) (i:=17) (zlq _),?_⟩;refine⟨R.many,rfl,hm,?_⟩;refine zi zkK (hdr fZ) (o:=0+211+R.many*1) (v:=s32 R.ctl) rfl rfl (by rw [jt];omega) rfl fun U fU gU sU=>?_;rw [UT,UZ,zdU _ hm] at fU;refine⟨_,zc (za fU) (i:=18) (zbr _),?_⟩;refine⟨((R.many+1:Nat):Int),(ze (by show _<=((R.many:Nat):Int)+1/\((R.many:Nat):Int)+1<=_;omega)).trans rfl,?_⟩;refine zi k3 fU (o:=0+18) (v:=i64 (R.many+1:Nat)) rfl rfl (by rw [jt];decide) rfl fun V fV gV sV=>?_;rw [UT,zh3] at fV;have gd:w.grownBy w.drew (some b):=⟨rfl,rfl,rfl,UY _,fun _ _ _=>rfl⟩;have gd2:Z.grownBy Z.drew (some b):=⟨rfl,rfl,rfl,UY _,fun _ _ _=>rfl⟩;refine⟨rfl,?_,zd (zd (zd (zd gd gY) gZ) (zd gd2 gU)) gV,?_⟩
 ·unfold zaM;rw [<- hev];exact fV
 ·rw [sV,sU];show Z.heap.size=_;rw [sZ,sY];rfl
theorem zln {d v:UInt8} {s:Nat} (f:jq w b R) (hd:d.toNat<8):Calls PG 134 #[AtR b,u8 d,u8 v,s32 s] w fun e w' =>
  e = .returned (.tuple #[])/\jq w' b (zh1 R d v s)/\w.grownBy w' (some b)/\w'.heap.size=w.heap.size:=by
 refine zI 20 [AtR b,u8 d,u8 v,s32 s] Tryz.func134 ?_;refine⟨d.toNat,rfl,hd,?_⟩;refine zi k5 f (o:=0+1+d.toNat*1) (v:=u8 v) rfl rfl (by rw [jt];omega) rfl fun Y fY gY sY=>?_;rw [UT,UZ,zi5 _ hd] at fY;refine⟨d.toNat,rfl,hd,?_⟩;refine zi zkK fY (o:=0+9+d.toNat*1) (v:=s32 s) rfl rfl (by rw [jt];omega) rfl fun Z fZ gZ sZ=>?_;rw [UT,UZ,zi6 _ hd] at fZ;exact⟨rfl,fZ,zd gY gZ,sZ.trans sY⟩
theorem zbc {r:Bool} {n:UInt8} (f:jq w b R) (hn:r=true->n.toNat<8):Calls PG 135 #[AtR b,.agg #[.bool r,u8 n]] w fun e w' =>
  e = .returned (.tuple #[u8 (qz r n R).1,s32 (qz r n R).2])/\Bw w w':=by
 refine zI 24 [AtR b,.agg #[.bool r,u8 n]] Tryz.func135 ?_;have f0:=zz w (.cells #[.bool r,u8 n] 39);have hb:Bw w (w.alloc (.cells #[.bool r,u8 n] 39)):=zba w _;refine⟨_,zc (za f0) (i:=0) rfl,?_⟩;refine biE (fun h=>?_) fun h=>?_
 ·have hn8:=hn h;have fr:=zb hb f;refine DrawE.ord [] [0,1,2,3,4,5,6,7,8,9,10,11,12,13,14,15] (by kernel_rfl) ?_;refine⟨_,zc (za (hdr f0)) (i:=1) rfl,?_⟩;refine⟨n.toNat,rfl,hn8,?_⟩;refine⟨_,by rw [UZ,UF];exact zc (za (hdr fr)) (zpo R hn8),?_⟩;refine⟨_,zc (za (hdr f0)) (i:=1) rfl,?_⟩;refine⟨n.toNat,rfl,hn8,?_⟩;refine⟨_,by rw [UZ,UF];exact zc (za (hdr fr)) (zpp R hn8),?_⟩;refine⟨?_,hb.trans ((Gd _ _).drew)⟩;unfold qz;rw [Gr h];rfl
 ·refine⟨_,zc (za f0) (i:=1) rfl,?_⟩;refine⟨?_,hb⟩;unfold qz;rw [Gq (by rw [h];exact Kx)];rfl
end
abbrev zca (x:InsD):Value := .agg (zH.enc x).toArray
section
variable {R:RunD} {b:Nat} {w:Wd}
theorem zmv {x:InsD} {v:UInt8} (f:jq w b R) (hm:R.many<24) (hd:x.dst.toNat<8):Calls PG 93 #[AtR b,zca x,u8 v] w fun e w' =>
  e = .returned (.tuple #[])/\jq w' b (zn8 R x v)/\w.grownBy w' (some b):=by
 refine zI 21 [AtR b,zca x,u8 v] Tryz.func93 ?_;have f0:=zz w (.cells (zH.enc x).toArray 41);have hb:Bw w (w.alloc (.cells (zH.enc x).toArray 41)):=zba w _;have fr:=zb hb f;have hne:w.heap.size≠b:=fun e=>by have:=hlt f;omega
 refine⟨_,zc (za f0) (i:=2) rfl,_,zc (za f0) (i:=8) rfl,cmo (zeQ (k:=1) (l:=x.loc) (v:=v) (m:=x.mode) (d:=0) fr hm) ?_⟩;rintro e Y ⟨rfl,fY,gY,sY⟩;have f0Y:=(gY.block w.heap.size (hlt f0) (by simpa using hne)).trans f0;refine DrawE.ord [6] [0,1,2,3,4,5,6] (by kernel_rfl) ⟨_,zc (za (hdr f0Y)) (i:=1) rfl,by omega,_,zfn (e:=R.many) (by omega),cmo (zln (d:=x.dst) (v:=v) (s:=2^R.many) (hdr fY) hd) ?_⟩;rintro e Z ⟨rfl,fZ,gZ,sZ⟩;have gd:Y.grownBy Y.drew (some b):=⟨rfl,rfl,rfl,UY _,fun _ _ _=>rfl⟩;exact⟨rfl,fZ,zd (zf hb) (zd gY (zd gd gZ))⟩
theorem zkp {x:InsD} {v:UInt8} (f:jq w b R) (hm:R.many<24) (ha:x.ar=true->x.an.toNat<8):Calls PG 94 #[AtR b,zca x,u8 v] w fun e w' =>
  e = .returned (.tuple #[])/\jq w' b (zkj R x)/\w.grownBy w' (some b):=by
 refine zI 23 [AtR b,zca x,u8 v] Tryz.func94 ?_;have f0:=zz w (.cells (zH.enc x).toArray 41);have hb:Bw w (w.alloc (.cells (zH.enc x).toArray 41)):=zba w _;have fr:=zb hb f;refine⟨[.bool x.ar,u8 x.an],rfl,qu (o:=3) (n:=2) f0,hlt f0,cmo (zbc fr ha) ?_⟩;rintro e Y ⟨rfl,hbY⟩;have f0Y:=zb hbY f0;have fY:=zb hbY fr;refine⟨_,zc (za f0Y) (i:=2) rfl,_,zc (za f0Y) (i:=8) rfl,cmo (zeQ (k:=2) (l:=x.loc) (v:=(qz x.ar x.an R).1) (m:=x.mode) (d:=(qz x.ar x.an R).2) fY hm) ?_⟩;rintro e Z ⟨rfl,fZ,gZ,sZ⟩;exact⟨rfl,fZ,zd (zf hb) (zd (zf hbY) gZ)⟩
theorem zkr {x:InsD} {v:UInt8} (f:jq w b R) (hm:R.many<24):Calls PG 99 #[AtR b,zca x,u8 v] w fun e w' =>
  e = .returned (.tuple #[])/\jq w' b (zkR R x)/\w.grownBy w' (some b):=by
 refine zI 10 [AtR b,zca x,u8 v] Tryz.func99 ?_;have f0:=zz w (.cells (zH.enc x).toArray 41);have hb:Bw w (w.alloc (.cells (zH.enc x).toArray 41)):=zba w _;have fr:=zb hb f;refine⟨_,zc (za f0) (i:=8) rfl,cmo (zeQ (k:=3) (l:=0) (v:=0) (m:=x.mode) (d:=0) fr hm) ?_⟩;rintro e Z ⟨rfl,fZ,gZ,sZ⟩;exact⟨rfl,fZ,zd (zf hb) gZ⟩
end
def zsQ (x:InsD):Prop:=(x.op=1/\x.dst.toNat<8)\/(x.op=2/\(x.ar=true->x.an.toNat<8))\/x.op=7
def fnV (g:Nat):Value := .func (.func g) #[] #[]
def zp4:List Value:=[.nilFunc,fnV 93,fnV 94,fnV 95,fnV 96,fnV 97,fnV 98,fnV 99,fnV 100]
theorem zmR {w:Wd}:CB 71 #[] w (.agg zp4.toArray):=by
 refine zI 2 [] Tryz.func71 ?_;have f0:=zz w (.cells (List.replicate 9 Value.nilFunc).toArray 145);have hb:Bw w (w.alloc (.cells (List.replicate 9 Value.nilFunc).toArray 145)):=zba w _;exact⟨zp4,rfl,zJ (v := .agg zp4.toArray) zsF f0 rfl rfl rfl ⟨zp4,rfl,za (zA f0),rfl,zC hb (UY _) _⟩⟩
theorem zmm {α:Type} {E:Enc α} {w X:Wd} {q:OA} {l:List α} {b:Nat} (h:SlR E w q l) (hq:∀ a,q=some a->a.block≠b) (g:w.grownBy X (some b)):SlR E X q l:=by
 rcases h with h | ⟨b',o,h1,h2,h3⟩
 ·exact .inl h
 ·refine .inr ⟨b',o,h1,nL h2 g.size,fun i hi=>jk (g.block b' h2 (fun e=>hq _ h1 (by cases e;rfl))) (h3 i hi)⟩
theorem zoh {l:List InsD} {R:RunD} (h:l[R.pc]?=none):∀ n,goR l n R=R
 | 0=>rfl
 | n+1=>by unfold goR;rw [h]
theorem zpP {l:List InsD} {R:RunD} {x:InsD} (h:l[R.pc]?=some x) (hr:zbU x=true):∀ n,goR l n R=R
 | 0=>rfl
 | n+1=>by unfold goR;rw [h];simp only [hr,Gp]
theorem zpO {l:List InsD} {R:RunD} {x:InsD} (h:l[R.pc]?=some x) (hr:zbU x=false) (n:Nat):goR l (n+1) R=goR l n (qi R x 0):=by
 show (match l[R.pc]? with | none=>R | some x=>if zbU x then R else goR l n (qi R x 0))=_;rw [h];simp only [hr,Kw,Gm]
theorem zbf {n:Nat} {f:Nat->Value} (h:∀ i,(f i).oneCell'=true):(seg n f).all Value.oneCell'=true:=by
 unfold seg;rw [Qm];intro u hu;obtain⟨i,_,rfl⟩:=UL.1 hu;exact h i
theorem zmb:(zlf).toArray.size=259:=by kernel_rfl
theorem znG (R:RunD):(qB R).all Value.oneCell'=true:=by
 unfold qB;rw [UC,QL,QL,QL,QL,QL,QL,zbf fun _=>rfl,zbf fun _=>rfl,zbf fun _=>rfl,zbf fun _=>rfl,zbf fun _=>rfl];have:(zdI R.ev).all Value.oneCell'=true:=Qm.2 fun u hu=>zcd (E:=evE) _ u hu;rw [this];rfl
theorem qT {α:Type} {E:Enc α} {w X:Wd} {q:OA} {l:List α} (h:SlR E w q l) (hs:∀ a,q=some a->X.heap[a.block]?=w.heap[a.block]?):SlR E X q l:=by
 rcases h with h | ⟨b',o,h1,h2,h3⟩
 ·exact .inl h
 ·have h4:=hs _ h1;have h4:X.heap[b']?=w.heap[b']?:=h4;refine .inr ⟨b',o,h1,?_,fun i hi=>jk h4 (h3 i hi)⟩;have h5:w.heap[b']?=some w.heap[b']:=Jo h2;rw [h5] at h4;exact hlt h4
structure RowF {α:Type} (E:Enc α) (n0:Nat) (F:Nat->Prop) (X:Wd) (q:OA) (l:List α):Prop where
 row:SlR E X q l
 out:∀ a,q=some a->a.block<n0/\¬ F a.block
theorem RowF.keep {α:Type} {E:Enc α} {n0:Nat} {F F' G:Nat->Prop} {X Y:Wd} {q:OA} {l:List α} (h:RowF E n0 F X q l) (hn:n0<=X.heap.size) (k:KeepsG G F' X Y) (hG:∀ k,k<n0->G k->F k):RowF E n0 F' Y q l:=by
 refine⟨qT h.row fun a ha=>?_,fun a ha=>⟨(h.out a ha).1,fun hf=>?_⟩⟩
 ·have:=h.out a ha;exact k.same _ (by omega) fun hg=>this.2 (hG _ this.1 hg)
 ·have:=h.out a ha;rcases k.fp _ hf with h2 | h2
  ·exact this.2 (hG _ this.1 h2)
  ·omega
def StR (pre:List RunD) (vs:List Value) (W:Wd):Prop:=∃ R b,pre.getLast?=some R/\vs=[AtR b]/\jq W b R
section
variable {yl n0 cap cd:Nat} {J Jx:List RunD->(Nat->Prop)->Wd->Prop} {xs:List RunD} {l:List InsD} {dom:List UInt8} {q p:OA}
theorem ziw {w:Wd}:Calls PG 75 #[.slice q l.length cap,.slice p dom.length cd] w fun e w'=>e = .returned (.func (.func 104) #[] #[AtR w.heap.size,AtR (w.heap.size+1)])/\w'.heap[w.heap.size]?=some (.cells #[.slice q l.length cap] 42 (0,0))/\w'.heap[w.heap.size+1]?=some (.cells #[.slice p dom.length cd] 23 (0,0))/\w'.heap.size=w.heap.size+2/\Bw w w':=by
 refine zI 6 [.slice q l.length cap,.slice p dom.length cd] Tryz.func75 ?_;have s1:=wz w (.cells #[.slice q l.length cap] 42);have h2:=zz (w.alloc (.cells #[.slice q l.length cap] 42)) (.cells #[.slice p dom.length cd] 23);have s2:=wz (w.alloc (.cells #[.slice q l.length cap] 42)) (.cells #[.slice p dom.length cd] 23);rw [s1] at h2 s2;refine⟨?_,qG _ (zz w _),h2,s2,((zba w _)).alloc (by simp) _⟩;rw [<- s1];rfl
end
theorem zrl {P:Program} {t e:TypeId} (hu:P.underlying t=some (.slice e)) (d:Nat) (a:OA) (n c:Nat) (w:Wd):(Op.equalIn (d+1) t (.slice a n c) (.slice none 0 0)).run P w = .ok a.isNone w:=by
 cases a <;> simp [Op.equalIn,Uv hu]
theorem zin {n m:Nat} (h:n<256) (hm:Nat.ble 256 m=true):n<m:=nL h (JU hm)
theorem zrm {P:Program} {t e:TypeId} (hu:P.underlying t=some (.slice e)) (x y:Operand) (a:OA) (n c:Nat) (w:Wd):(do eqGuard .eql t x y (.slice a n c) (.slice none 0 0);binOp .eql t (.slice a n c) (.slice none 0 0):Sem Value).run P w = .ok (.bool a.isNone) w:=by
 have h:(Op.equal t (.slice a n c) (.slice none 0 0)).run P w = .ok a.isNone w:=by
  exact zrl hu 9999 a n c w
 have h1:(eqGuard .eql t x y (.slice a n c) (.slice none 0 0)).run P w = .ok () w:=by
  simp only [eqGuard,Uy,Kw,Gm,UW]
 rw [UV,h1];simp only [Qd,binOp,UV,h,UW]
theorem zf0 {α:Type} {E:Enc α} {T:TypeId} {w:Wd}:OwnS E T w.heap.size (w.alloc (.cells #[] T)) (some ⟨w.heap.size,0,none⟩) 0 []:=by
 unfold OwnS World.ownsRow;exact⟨by simp,.inr ⟨w.heap.size,0,#[],rfl,UY _,zz w _,UY _,Gb _,by simp,by simp⟩⟩
theorem zka {p:OA} {cap:Nat} {l:List UInt8} {w:Wd} (hl:SlR zM w p l) (hn:l.length<=1000000) (hc:p=none->cap=0) :
  Calls PG 42 #[.slice p l.length cap] w fun e w'=>(∃ q c,e = .returned (.slice q l.length c)/\OwnS zM 5 w.heap.size w' q c l)/\Bw w w':=by
 refine zI 8 [.slice p l.length cap] Tryz.func42 ?_;refine⟨_,fun w=>zrm Tryz.underlying23 _ _ p l.length cap w,?_⟩
 cases p with
 | none =>
  refine brT ?_;have e:=hl.none;subst e;exact⟨⟨none,0,rfl,OwnS.nil⟩,Gd _ _⟩
 | some a =>
  refine brF ⟨⟨by decide,by decide,rfl⟩,[],rfl,?_⟩;have hb0:Bw w (w.alloc (.cells #[] 5)):=zba w _;refine zfB (E:=zM) (T:=5) (B:=w.heap.size) (l:=[]) (news:=l) (cap:=0) Tryz.underlying23 k5 rfl rfl rfl zf0 rfl (hl.below hb0) (fun h=>by cases h) hb0.size (by simp;omega) (by simp;omega) ?_;intro p' cap' w' ho hg hbw;exact⟨⟨p',cap',rfl,ho⟩,hb0.trans hbw⟩
theorem zrb {x:UInt8} {w:Wd}:Calls PG 160 #[u8 x] w fun e w'=>e = .returned (.bool false)/\w=w':=by
 refine zI 6 [u8 x] Tryz.func160 ?_;refine⟨rb ?_,rfl⟩;rw [Uu rfl];rfl
theorem jz {x y:UInt8} {w:Wd}:Calls PG 143 #[u8 x,u8 y] w fun e w'=>e = .returned (.bool (decide ((x.toNat:Int)<(y.toNat:Int))))/\w=w':=by
 refine zI 17 [u8 x,u8 y] Tryz.func143 ?_;refine cmo zrb ?_;rintro e _ ⟨rfl,rfl⟩;exact brF (brF ⟨rfl,rfl⟩)
def zaJ:UInt8->List UInt8->List UInt8
 | _,[]=>[]
 | p,y::r=>if y=p then zaJ p r else y::zaJ y r
def ded:List UInt8->List UInt8
 | []=>[]
 | x::r=>x::zaJ x r
theorem zeU:∀ (A:List UInt8) (p x:UInt8),zaJ p (A++[x])=if x=(p::A).getLast (by simp) then zaJ p A else zaJ p A++[x]
 | [],p,x=>by
  show (if x=p then [] else [x])=_;rfl
 | y::A,p,x=>by
  show (if y=p then zaJ p (A++[x]) else y::zaJ y (A++[x]))=_;have hl:(p::y::A).getLast (by simp)=(y::A).getLast (by simp):=List.getLast_cons (by simp);rw [hl];show _=if x=(y::A).getLast _ then (if y=p then zaJ p A else y::zaJ y A) else (if y=p then zaJ p A else y::zaJ y A)++[x]
  by_cases h:y=p
  ·subst h;rw [Gr rfl,Gr rfl,zeU A y x]
  ·rw [Gq h,Gq h,zeU A y x]
   split <;> rfl
theorem zoD {A:List UInt8} (h:A≠[]) (x:UInt8):ded (A++[x])=if x=A.getLast h then ded A else ded A++[x]:=by
 cases A with
 | nil=>exact Gs rfl h
 | cons y A =>
  show y::zaJ y (A++[x])=_;rw [zeU];show _=if x=(y::A).getLast h then y::zaJ y A else y::zaJ y A++[x]
  split <;> rfl
theorem zjQ {l:List UInt8} {i:Nat} (h0:0<i) (hi:i<l.length):ded (l.take (i+1))=if l[i]=l[i-1] then ded (l.take i) else ded (l.take i)++[l[i]]:=by
 rw [tsg hi];have hne:l.take i≠[]:=by
  intro e;have:=Gl List.length e;rw [Qx,QR] at this;omega
 rw [zoD hne];have:(l.take i).getLast hne=l[i-1]:=by
  have hlen:(l.take i).length-1=i-1:=by rw [Qx];omega
  simp only [List.getLast_eq_getElem,List.getElem_take,hlen]
 rw [this]
section
variable {B g cap:Nat} {l:List UInt8} {w:Wd}
theorem zcY {X:Wd} {sp:List Value} {M:List UInt8} (h:RowS zM 5 X g sp M) {i:Nat} (hi:i<M.length):X.cell? ⟨g,0+i*1,none⟩=some (u8 M[i]):=by
 have:=zc (h.at hi) (i:=0) (v:=u8 M[i]) rfl;exact this
theorem zj2 {M:List UInt8} {i:Nat} {x:UInt8} (h:M[i]?=some x):∃ hi:i<M.length,M[i]=x:=by
 obtain⟨hi,e⟩:=Js.1 h;exact⟨hi,e⟩
theorem zld (ho:OwnS zM 5 B w (some ⟨g,0,none⟩) cap l) (hn:l.length<=1000000) :
  Calls PG 74 #[.slice (some ⟨g,0,none⟩) l.length cap] w fun e w'=>e = .returned (.slice (some ⟨g,0,none⟩) (ded l).length cap)/\OwnS zM 5 B w' (some ⟨g,0,none⟩) cap (ded l)/\w.grownBy w' (some g):=by
 refine zI 61 [.slice (some ⟨g,0,none⟩) l.length cap] Tryz.func74 ?_;rcases ho.inv with ⟨h,_⟩ | ⟨g',cur,hg,hB,hcur,hlc,hcm,hcs,hct⟩
 ·cases h
 simp only [Qc,Uw,Gk] at hg;subst hg;have hcs:cur.size=cap:=by rw [hcs];exact UZ _
 obtain⟨sp,hsp⟩:=nm (cur.toList.drop l.length);have hct:cur.toList.take l.length=l.flatMap zM.enc:=by rw [<- hct];congr 1;exact (UZ _).symm
 have hR:RowS zM 5 w g sp l:=by
  unfold RowS;rw [hcur,<- hct,hsp,JS]
 have hspl:l.length+sp.length=cap:=by
  have h1:cur.toList.length=cap:=by rw [Array.length_toList];exact hcs
  rw [hsp,Qw,h1];omega
 refine biE (fun h=>?_) fun h=>?_
 ·have h:(l.length:Int)<2:=dT h;have e:ded l=l:=by
   match l,h with
   | [],_=>rfl
   | [x],_=>rfl
   | x::y::r,h=>simp at h;omega
  rw [e];exact⟨rfl,ho,z8 w _⟩
 have h:¬ (l.length:Int)<2:=dF h;have hl2:2<=l.length:=by omega
 refine⟨Nat,fun k=>⟨[(0,.slice (some ⟨g,0,none⟩) l.length cap),(3,i64 (k:Nat))],[]⟩,fun k X=>1<=k/\k<=l.length/\ded (l.take k)=l.take k/\RowS zM 5 X g sp l/\w.grownBy X (some g),fun k=>l.length-k,1,
  (cvE rfl rfl),⟨UY _,by omega,by
   cases l with
   | nil=>rfl
   | cons x r=>rfl,hR,z8 w _⟩,?_⟩
 rintro k X ⟨hk1,hkl,hdk,hRX,gX⟩;refine biE (fun hc=>?_) fun hc=>?_
 ·have hc:(k:Int)<(l.length:Int):=dT hc;have hk:k<l.length:=by omega
  refine DrawE.ord [] [0,1,2,3,4,5,6,7,8,9] (by kernel_rfl) ?_;have hRd:RowS zM 5 X.drew g sp l:=hRX;have gd:w.grownBy X.drew (some g):=zd gX ⟨rfl,rfl,rfl,UY _,fun _ _ _=>rfl⟩;refine⟨k,rfl,hk,_,zcY hRd hk,((k-1:Nat):Int),(ze (by omega)).trans (by omega),k-1,rfl,by omega,?_⟩;refine⟨_,zcY hRd (by omega),?_⟩;have hnx:=zjQ (l:=l) hk1 hk;refine biE (fun he=>?_) fun he=>?_
  ·have he:l[k]=l[k-1]:=jh.1 (dT he);rw [Gr he] at hnx;refine⟨k,rfl,by show k<=l.length;omega,?_⟩;have hcb:jd (some ⟨g,0,none⟩) cap k 1=some ⟨g,k,none⟩:=by
    unfold jd;rw [Gq (by omega)];show some ((⟨g,0,none⟩:Addr).add (k*1))=_;rw [za3,UZ,UT]
   refine⟨Nat×Nat×List UInt8,fun s=>⟨[(0,.slice (some ⟨g,0,none⟩) l.length cap),(3,i64 (s.2.1:Nat)),(4,.slice (some ⟨g,k,none⟩) (l.length-k) (cap-k)),(5,i64 (s.1:Nat))],[]⟩,
    fun s Y=>(1<=s.1/\k+s.1<=l.length)/\(s.2.1=(ded (l.take (k+s.1))).length/\s.2.1+1<=k+s.1)/\(s.2.2.length=l.length/\s.2.2.take s.2.1=ded (l.take (k+s.1))/\∀ j,s.2.1<=j->s.2.2[j]?=l[j]?)/\RowS zM 5 Y g sp s.2.2/\w.grownBy Y (some g),fun s=>l.length-s.1,(1,k,l),
    ⟨.cons rfl (.cons rfl (.cons (by rw [<- hcb];rfl) (.cons rfl .nil))),rfl⟩,⟨⟨UY _,by show k+1<=_;omega⟩,⟨by show k=_;rw [hnx,hdk,Qx];omega,UY _⟩,⟨rfl,by show l.take k=_;rw [hnx,hdk],fun j _=>rfl⟩,hRd,gd⟩,?_⟩
   rintro⟨m,q,M⟩ Y ⟨⟨hm1,hml⟩,⟨hq,hqm⟩,⟨hM,hMt,hMj⟩,hRY,gY⟩;dsimp only at hm1 hml hq hqm hM hMt hMj hRY ⊢;refine biE (fun hc=>?_) fun hc=>?_
   ·have hc:(m:Int)<((l.length-k:Nat):Int):=dT hc;have hi:k+m<l.length:=(by omega);have g1:M[k+m]?=some l[k+m]:=(by rw [hMj _ (by omega),gE hi]);have g0:M[k+m-1]?=some l[k+m-1]:=(by rw [hMj _ (by omega),gE (by omega)]);obtain⟨i1,e1⟩:=zj2 g1;obtain⟨i0,e0⟩:=zj2 g0;have nx:=zjQ (l:=l) (i:=k+m) (by omega) hi;refine DrawE.ord [] [0,1,2,3,4,5,6,7,8,9] (by kernel_rfl) ?_;have hRYd:RowS zM 5 Y.drew g sp M:=hRY;have gYd:w.grownBy Y.drew (some g):=zd gY ⟨rfl,rfl,rfl,UY _,fun _ _ _=>rfl⟩;have a1:Y.drew.cell? ⟨g,k+m*1,none⟩=some (u8 l[k+m]):=by
     have:=zcY hRYd i1;rw [e1,UZ,UT] at this;rw [UZ];exact this
    have a0:Y.drew.cell? ⟨g,k+(m-1)*1,none⟩=some (u8 l[k+m-1]):=by
     have:=zcY hRYd i0;rw [e0,UZ,UT] at this;rw [UZ,<- Nat.add_sub_assoc hm1];exact this
    refine⟨m,rfl,by omega,?_⟩;refine⟨_,a1,((m-1:Nat):Int),(ze (by omega)).trans (by omega),m-1,rfl,by omega,?_⟩;refine⟨_,a0,biE (fun hne=>?_) fun hne=>?_⟩
    ·have hne:¬ l[k+m]=l[k+m-1]:=fun e=>by
      have hne:(!decide (((l[k+m]).toNat:Int)=((l[k+m-1]).toNat:Int)))=true:=hne;rw [e,Uu rfl] at hne;cases hne
     rw [Gq hne] at nx;refine⟨m,rfl,by omega,?_⟩;refine⟨_,a1,q,rfl,by omega,?_⟩;refine zhb k5 rfl hRYd (i:=q) (by omega) l[k+m] fun Z hRZ gZ sZ=>nxI (by omega) (nxI (by omega) ⟨(m+1,q+1,M.set q l[k+m]),(cvE rfl rfl),⟨⟨by omega,by show k+(m+1)<=_;omega⟩,⟨?_,by show q+1+1<=k+(m+1);omega⟩,⟨by rw [QS];exact hM,?_,fun j hj=>?_⟩,hRZ,zd gYd gZ⟩,zdc (by omega)⟩)
     ·show q+1=(ded (l.take (k+(m+1)))).length;rw [<- UF,nx,lap,<- hq];rfl
     ·show (M.set q l[k+m]).take (q+1)=ded (l.take (k+(m+1)));rw [<- UF,nx,<- hMt];rw [tsg (by rw [QS];omega),List.take_set_of_le (UY _),List.getElem_set_self]
     ·show (M.set q l[k+m])[j]?=l[j]?;have hj:q+1<=j:=hj;rw [JY (by omega)];exact hMj j (by omega)
    ·have heq:l[k+m]=l[k+m-1]:=by
      have hne:(!decide (((l[k+m]).toNat:Int)=((l[k+m-1]).toNat:Int)))=false:=hne;have h2:decide (((l[k+m]).toNat:Int)=((l[k+m-1]).toNat:Int))=true:=(by simpa using hne);exact jh.1 (dT h2)
     rw [Gr heq] at nx;exact nxI (by omega) ⟨(m+1,q,M),(cvE rfl rfl),⟨⟨by omega,by show k+(m+1)<=_;omega⟩,⟨by show q=(ded (l.take (k+(m+1)))).length;rw [<- UF,nx];exact hq,by show q+1<=k+(m+1);omega⟩,⟨hM,by show M.take q=ded (l.take (k+(m+1)));rw [<- UF,nx];exact hMt,hMj⟩,hRYd,gYd⟩,zdc (by omega)⟩
   ·have hc:¬ (m:Int)<((l.length-k:Nat):Int):=dF hc;have hkm:k+m=l.length:=(by omega);rw [hkm,Qz] at hq hMt;refine⟨q,rfl,by show q<=l.length;omega,?_⟩;have hcb2:jd (some ⟨g,0,none⟩) cap q 1=some ⟨g,q,none⟩:=by
     unfold jd;rw [Gq (by omega)];show some ((⟨g,0,none⟩:Addr).add (q*1))=_;rw [za3,UZ,UT]
    have hfl:(M.flatMap zM.enc++sp).length=cap:=by
     rw [lap,qp,hM];show l.length*1+_=_;omega
    have hcl:SatR ((Builtin.clear_ #[23] 0 #[.slice (some ⟨g,q,none⟩) (l.length-q) (cap-q)]).run PG Y) fun _ Z=>Z.heap[g]?=some (.cells ((M.flatMap zM.enc++sp).take q++List.replicate (l.length-q) (u8 0)++(M.flatMap zM.enc++sp).drop (q+(l.length-q))).toArray 5 (0,0))/\Y.grownBy Z (some g) :=
     zmW Tryz.underlying23 k5 rfl rfl (by omega) hRY (by show q+(l.length-q)<=(M.flatMap zM.enc++sp).length;rw [hfl];omega) fun Z fZ gZ sZ=>⟨fZ,gZ⟩
    obtain⟨v,Z,hrun,fZ,gZ⟩:=hcl;refine⟨v,Z,by rw [hcb2];exact hrun,?_⟩;refine⟨q,rfl,by show q<=cap;omega,?_⟩;rw [<- hq];refine⟨by show Ending.returned (Value.slice (jd (some ⟨g,0,none⟩) cap 0 1) (q-0) (cap-0))=_;rw [zcv];rfl,?_,zd gY gZ⟩;unfold OwnS World.ownsRow;refine⟨by rw [qp],.inr ⟨g,cap,_,rfl,hB,fZ,by omega,hcm,?_,?_⟩⟩
    ·show (List.length _)=cap*1;rw [lap,lap,Qx,JP,Qw,hfl];omega
    ·rw [<- hq];show ((M.flatMap zM.enc++sp).take q++List.replicate (l.length-q) (u8 0)++(M.flatMap zM.enc++sp).drop (q+(l.length-q))).take (q*1)=_;rw [UZ,KS,Jh (by rw [Qx,hfl];omega),List.take_take,Nat.min_self,Jh (by rw [qp,hM];show q<=l.length*1;omega),<- hMt];have:=JS q M;have e2:M.flatMap zM.enc=(M.take q).flatMap zM.enc++(M.drop q).flatMap zM.enc:=(by rw [<- Kj,JS]);rw [e2,QZ (by rw [qp,Qx];show min q M.length*1=q;omega)]
  ·have he:¬ l[k]=l[k-1]:=fun e=>(dF he) (by rw [e]);rw [Gq he,hdk] at hnx;exact nxI (by omega) ⟨k+1,(cvE rfl rfl),⟨by omega,hk,by rw [hnx,tsg hk],hRd,gd⟩,zdc (by omega)⟩
 ·have hc:¬ (k:Int)<(l.length:Int):=dF hc;obtain rfl:k=l.length:=by omega
  rw [Qz] at hdk;rw [hdk];refine⟨rfl,?_,gX⟩;unfold OwnS World.ownsRow;refine⟨by rw [qp],.inr ⟨g,cap,_,rfl,hB,hRX,by omega,hcm,?_,?_⟩⟩
  ·show (l.flatMap zM.enc++sp).length=cap*1;rw [lap,qp];show l.length*1+_=_;omega
  ·exact QZ (qp l)
end
def prE:Enc (Nat×Nat):=⟨fun x=>[u8 (UInt8.ofNat x.1),u8 (UInt8.ofNat x.2)],2,fun _=>rfl,by decide,fun a u hu=>by
 simp only [UE,Qy,Gn] at hu;rcases hu with rfl | rfl <;> rfl⟩
def zfN:Enc Nat:=⟨fun x=>[s32 x],1,fun _=>rfl,by decide,fun a u hu=>by
 simp only [UE,Qy,Gn] at hu;subst hu;rfl⟩
theorem zqN {s:Nat} {w:Wd} (hT:Tz32M w) (h0:s≠0) (h:s<2^32):Calls PG 101 #[s32 s] w fun e w'=>e = .returned (i64 (ctz s:Nat))/\w=w':=by
 refine zI 14 [s32 s] Tryz.func101 ?_;obtain⟨h2,h3⟩:=zgz h0 h;obtain⟨t1,t2⟩:=znm h3;refine brN (Uj (fun e=>h0 (by omega))) ⟨((2^32-s:Nat):Int),by unfold IntKind.wrap;simp only [IntKind.bits,IntKind.signed,Ul,Kw,Gm];omega,?_⟩;refine⟨((2^ctz s:Nat):Int),(zli (a:=s) (b:=2^32-s) h (by omega)).trans (by rw [h2]),?_⟩;refine⟨((2^ctz s*125613361%4294967296:Nat):Int),by
  have e:(((2^ctz s:Nat):Int)*125613361)=((2^ctz s*125613361:Nat):Int):=by rw [QK];rfl
  rw [e];generalize 2^ctz s*125613361=n;unfold IntKind.wrap;simp only [IntKind.bits,IntKind.signed,Ul,Kw,Gm];omega,?_⟩
 refine⟨by decide,((2^ctz s*125613361%4294967296/2^27:Nat):Int),by
  generalize 2^ctz s*125613361%4294967296=n;show (n:Int).fdiv (2^(min (Int.toNat (27:Int)) IntKind.u32.bits))=_;rw [show min (Int.toNat (27:Int)) IntKind.u32.bits=27 from rfl,Jm _ (by decide)];omega,?_⟩
 refine⟨_,rfl,t1,?_⟩;have hv:(zg7.map u8)[2^ctz s*125613361%4294967296/2^27]?=some (u8 (UInt8.ofNat (ctz s))):=by rw [KX,t2];rfl
 refine⟨u8 (UInt8.ofNat (ctz s)),by rw [UZ];exact zc hT hv,?_⟩;have e:(UInt8.ofNat (ctz s)).toNat=ctz s:=by rw [KK];omega
 exact⟨(ctz s:Int),by rw [e];exact ze (by omega),rfl,rfl⟩
def jQ:Nat->List Nat->List (Nat×Nat)
 | _,[]=>[]
 | i,s::r=>(els s).map (fun a=>(a,i))++jQ (i+1) r
theorem zfY (f:Nat->Nat):∀ (n i:Nat),jQ i ((List.range' i n).map f)=(List.range' i n).flatMap fun i=>(els (f i)).map fun a=>(a,i)
 | 0,i=>rfl
 | n+1,i=>by
  rw [List.range'_succ,UD,KV];show (els (f i)).map _++jQ (i+1) _=_;rw [zfY f n (i+1)]
theorem zc6 (f:Nat->Nat) (n:Nat):jQ 0 ((List.range n).map f)=zcM f n:=by
 unfold zcM;rw [List.range_eq_range'];exact zfY f n 0
theorem zkF (l:List Nat) (x:Nat):∀ i,jQ i (l++[x])=jQ i l++(els x).map (fun a=>(a,i+l.length)):=by
 induction l with
 | nil=>intro i;show (els x).map _++[]=_;rw [QM];rfl
 | cons y r ih =>
  intro i;show (els y).map _++jQ (i+1) (r++[x])=((els y).map _++jQ (i+1) r)++_;rw [ih,KS,Qv];congr 3;funext a;congr 1;omega
theorem zeG:∀ (l:List Nat) (i:Nat),(jQ i l).length<=64*l.length
 | [],_=>Gb _
 | x::r,i=>by
  show ((els x).map _++jQ (i+1) r).length<=_;rw [lap,QQ,Qv];have h1:=zeG r (i+1);have h2:=zek x;omega
section
variable {p:OA} {cap:Nat} {l:List Nat} {w:Wd}
theorem zie (hl:SlR zfN w p l) (hn:l.length<=24) (hb:∀ x∈l,x<2^32) (hT:Tz32M w) :
  Calls PG 72 #[.slice p l.length cap] w fun e w'=>(∃ q c,e = .returned (.slice q (jQ 0 l).length c)/\OwnS prE 184 w.heap.size w' q c (jQ 0 l))/\Bw w w':=by
 refine zI 30 [.slice p l.length cap] Tryz.func72 ?_;refine⟨Nat×OA×Nat,fun s=>⟨[(3,.slice s.2.1 (jQ 0 (l.take s.1)).length s.2.2),(6,.slice p l.length cap),(7,i64 l.length),(8,i64 (s.1:Nat))],[]⟩,
  fun s X=>s.1<=l.length/\OwnS prE 184 w.heap.size X s.2.1 s.2.2 (jQ 0 (l.take s.1))/\Bw w X,fun s=>l.length-s.1,(0,none,0),
  (cvE rfl rfl),⟨Gb _,OwnS.nil,Gd _ _⟩,?_⟩
 rintro⟨k,q,c⟩ X ⟨hk,ho,hbX⟩;dsimp only at hk ho ⊢;refine biE (fun hc=>?_) fun hc=>?_
 ·have hc:(k:Int)<(l.length:Int):=dT hc;have hkl:k<l.length:=by omega
  obtain⟨b,o,hp,hlt',hat⟩:=(hl.below hbX).at hkl;have ep:some (Value.slice p l.length cap)=some (Value.slice (some ⟨b,o,none⟩) l.length cap):=by rw [hp]
  subst hp;refine⟨k,rfl,hkl,s32 l[k],by have:=zc (hat k hkl) (i:=0) (v:=s32 l[k]) rfl;exact this,?_⟩;have hlk:=hb _ (gM hkl);have htl:(l.take k).length=k:=by rw [Qx];omega
  have hpl:=zeG (l.take k) 0;have tk:l.take (k+1)=l.take k++[l[k]]:=tsg hkl;refine⟨Nat×List (Nat×Nat)×OA×Nat,fun s=>⟨[(3,.slice s.2.2.1 s.2.1.length s.2.2.2),(4,i64 (k:Nat)),(5,s32 s.1),(6,.slice (some ⟨b,o,none⟩) l.length cap),(7,i64 l.length),(8,i64 (k:Nat))],[]⟩,
   fun s Y=>(jQ 0 (l.take (k+1))=s.2.1++(els s.1).map (fun a=>(a,k))/\s.1<2^32/\s.2.1.length+(els s.1).length<=64*(k+1))/\OwnS prE 184 w.heap.size Y s.2.2.1 s.2.2.2 s.2.1/\Bw w Y,fun s=>s.1,(l[k],jQ 0 (l.take k),q,c),
   (cvE rfl rfl),⟨⟨by rw [tk,zkF,htl,UT],hlk,by have:=zek l[k];show (jQ 0 (l.take k)).length+(els l[k]).length<=_;omega⟩,ho,hbX⟩,?_⟩
  rintro⟨s,m,q,c⟩ Y ⟨⟨he,hs,hlen⟩,ho,hbY⟩;dsimp only at he hs hlen ho ⊢;refine biE (fun hc=>?_) fun hc=>?_
  ·have hc:(!decide ((s:Int)=0))=true:=hc;have h0:s≠0:=fun e=>by
    subst e;exact Gs hc (by decide)
   have hs64:s<2^64:=nL hs (by decide);obtain⟨e1,e2,_,_⟩:=jM h0 hs64;obtain⟨_,hc32⟩:=zgz h0 hs;rw [e1] at hlen;refine cmo (zqN (hT.below hbY) h0 hs) ?_;rintro e _ ⟨rfl,rfl⟩;refine⟨_,w8N _,_,w8N _,prE.enc (ctz s,k),rfl,⟨by decide,by decide,rfl⟩,prE.enc (ctz s,k),za1 rfl rfl,?_⟩;have hba:Bw Y (Y.alloc (.cells (prE.enc (ctz s,k)).toArray 184)):=zba _ _;simp only [Qv] at hlen;refine jA (E:=prE) (T:=184) (B:=w.heap.size) (l:=m) (news:=[(ctz s,k)]) (cap:=c) (m:=1) Tryz.underlying71 zsd rfl rfl rfl (ho.below hba) rfl (qF prE (ctz s,k)) (by have:=hbY.size;have:=hba.size;omega) (by omega) (by show (m.length+1)*2<=_;omega) ?_;intro p2 c2 Z oZ gZ hbZ hat2;refine⟨((s-1:Nat):Int),(w32 (a:=(s:Int)-1) (by omega)).trans (by omega),((jf s:Nat):Int),zli (a:=s) (b:=s-1) hs (by omega),(jf s,m++[(ctz s,k)],p2,c2),(cvE rfl rfl),⟨⟨?_,by show jf s<_;omega,?_⟩,oZ,((zst hbY hba)).trans hbZ⟩,e2⟩
   ·rw [he,e1,UD,KS];rfl
   ·simp only [lap,Qv,QR];omega
  ·have hc:(!decide ((s:Int)=0))=false:=hc;have h0:s=0:=by
    have h1:decide ((s:Int)=0)=true:=(by simpa using hc);exact UB (dT h1)
   subst h0;rw [zaE,List.map_nil,QM] at he;exact nxI (by omega) ⟨(k+1,q,c),⟨.cons (by rw [he];rfl) (.cons rfl (.cons rfl (.cons rfl .nil))),rfl⟩,⟨hkl,by show OwnS prE _ _ _ _ _ (jQ 0 (l.take (k+1)));rw [he];exact ho,hbY⟩,zdc (by omega)⟩
 ·have hc:¬ (k:Int)<(l.length:Int):=dF hc;obtain rfl:k=l.length:=by omega
  rw [Qz] at ho;refine⟨⟨q,c,by rw [Qz];rfl,ho⟩,hbX⟩
theorem zhT {p:OA} {cap:Nat} {l:List Ev} {w:Wd} (hl:SlR evE w p l) (hn:l.length<=100000) (hc:p=none->cap=0) :
  Calls PG 49 #[.slice p l.length cap] w fun e w'=>(∃ q c,e = .returned (.slice q l.length c)/\OwnS evE 60 w.heap.size w' q c l)/\Bw w w':=by
 refine zI 8 [.slice p l.length cap] Tryz.func49 ?_;refine⟨_,fun w=>zrm Tryz.underlying43 _ _ p l.length cap w,?_⟩
 cases p with
 | none =>
  refine brT ?_;have e:=hl.none;subst e;exact⟨⟨none,0,rfl,OwnS.nil⟩,Gd _ _⟩
 | some a =>
  refine brF ⟨⟨by decide,by decide,rfl⟩,[],rfl,?_⟩;have hb0:Bw w (w.alloc (.cells #[] 60)):=zba w _;refine zfB (E:=evE) (T:=60) (B:=w.heap.size) (l:=[]) (news:=l) (cap:=0) Tryz.underlying43 k60 rfl rfl rfl zf0 rfl (hl.below hb0) (fun h=>by cases h) hb0.size (by simp;omega) (by show (0+l.length)*16<=_;omega) ?_;intro p' cap' w' ho hg hbw;exact⟨⟨p',cap',rfl,ho⟩,hb0.trans hbw⟩
end
def zgQ (P:PathD) (q1:OA) (c1:Nat) (q2:OA) (c2:Nat) (q3:OA) (c3:Nat) (q4:OA) (c4:Nat):List Value :=
 [.slice q1 P.ev.length c1,.slice q2 P.data.length c2,.slice q3 P.ctrl.length c3,.slice q4 P.rmw.length c4]++seg 8 (fun i=>u8 (P.regs i))
theorem zjl (P:PathD) (q1 c1 q2 c2 q3 c3 q4 c4):(zgQ P q1 c1 q2 c2 q3 c3 q4 c4).all Value.oneCell'=true:=by
 unfold zgQ;rw [QL,zbf fun _=>rfl];rfl
theorem zjm (P:PathD) (q1 c1 q2 c2 q3 c3 q4 c4):(zgQ P q1 c1 q2 c2 q3 c3 q4 c4).length=12:=by
 unfold zgQ;rw [lap,zw];rfl
def zsl (R:RunD):Prop:=∀ i,i<R.many->R.data i<2^32/\R.ctrl i<2^32/\R.att i<2^32
section
variable {R:RunD} {b:Nat} {w:Wd}
theorem zmo {X:Wd} {o n m:Nat} {f:Nat->Nat} (hb:b<X.heap.size) (h:∀ i,i<n->X.cell? ⟨b,o+i,none⟩=some (s32 (f i))) (hm:m<=n):SlR zfN X (some ⟨b,o,none⟩) ((List.range m).map f):=by
 refine .inr ⟨b,o,rfl,hb,fun i hi=>?_⟩;have hi:i<m:=by simpa using hi
 rw [Qt,KB];refine zaf fun j v hv=>?_
 cases j with
 | zero =>
  have hv:s32 (f i)=v:=by simpa [zfN] using hv
  rw [<- hv];show X.cell? ⟨b,o+i*1+0,none⟩=_;rw [UZ,UN];exact h i (by omega)
 | succ j=>simp [zfN] at hv
theorem zp0 {X:Wd} {m:Nat} (f:jq X b R) (hm:m<=24):SlR evE X (some ⟨b,19,none⟩) ((List.range m).map R.ev):=by
 have hc:=zlp f;refine .inr ⟨b,19,rfl,hlt f,fun i hi=>?_⟩;have hi:i<m:=by simpa using hi
 rw [Qt,KB,<- zot R.ev (show i<24 by omega)];exact zK hc
theorem zq2 (f:jq w b R) (hm:R.many<=24) (hB:zsl R) (hT:Tz32M w) :
  Calls PG 40 #[AtR b] w fun e w'=>(∃ q1 c1 q2 c2 q3 c3 q4 c4,e = .returned (.agg (zgQ (za8 R) q1 c1 q2 c2 q3 c3 q4 c4).toArray)/\OwnS evE 60 w.heap.size w' q1 c1 (za8 R).ev/\OwnS prE 184 w.heap.size w' q2 c2 (za8 R).data/\OwnS prE 184 w.heap.size w' q3 c3 (za8 R).ctrl/\OwnS prE 184 w.heap.size w' q4 c4 (za8 R).rmw)/\Bw w w':=by
 refine zI 44 [AtR b] Tryz.func40 ?_;obtain⟨Z0,hZ0⟩:∃ Z0:List Value,Z0=zgQ ⟨[],[],[],[],fun _=>0⟩ none 0 none 0 none 0 none 0:=⟨_,rfl⟩;have f0:=zz w (.cells Z0.toArray 73);have hb0:Bw w (w.alloc (.cells Z0.toArray 73)):=zba w _;obtain⟨X,hX⟩:=nm ((w.alloc (.cells Z0.toArray 73)).drew);have hbX:Bw w X:=by rw [hX];exact hb0.drew
 have f0X:X.heap[w.heap.size]?=some (.cells Z0.toArray 73 (0,0)):=by rw [hX];exact f0
 have fX:=zb hbX f;have hX':(w.alloc (.cells (#[.slice none 0 0,.slice none 0 0,.slice none 0 0,.slice none 0 0,.int .u8 0,.int .u8 0,.int .u8 0,.int .u8 0,.int .u8 0,.int .u8 0,.int .u8 0,.int .u8 0]:Array Value) 73)).drew=X:=by rw [hX,hZ0];rfl
 refine DrawE.ord [41] [0,1,2,3,4,5,6,7,9,10,11,12,13,14,15,16,18,19,20,21,22,23,24,25,27,28,29,30,31,32,33,34,36,37,38,39,8,17,26,35,40,41] (by kernel_rfl) ?_;have cut:∀ (o e:Nat),Value.slice (jd (some ⟨b,0+o,none⟩) 24 0 e) (R.many-0) (24-0) = .slice (some ⟨b,o,none⟩) R.many 24:=fun o e=>by rw [zcv,UT];rfl
 have lm:∀ {α:Type} (g:Nat->α),((List.range R.many).map g).length=R.many:=fun g=>by rw [QQ,KY]
 have hbx:=hlt fX;have sd:∀ {o:Nat} {g:Nat->Nat},(∀ i,i<24->(qB R)[o+i]?=some (s32 (g i)))->SlR zfN X (some ⟨b,o,none⟩) ((List.range R.many).map g):=fun {o g} h=>zmo hbx (fun i hi=>by
  have:=zc (za fX) (h i hi);rw [UT] at this;exact this) hm
 rw [hX'];refine⟨_,zc (za fX) (i:=18) (zbr R),R.many,rfl,hm,_,zc (za fX) (i:=18) (zbr R),R.many,rfl,hm,_,zc (za fX) (i:=18) (zbr R),R.many,rfl,hm,_,zc (za fX) (i:=18) (zbr R),R.many,rfl,hm,seg 8 (fun i=>u8 (R.regs i)),zw _ _,?_,hbx,?_⟩
 ·have:=zK (n:=1) (m:=8) (za fX);have e:((qB R).toArray.toList.drop 1).take 8=seg 8 (fun i=>u8 (R.regs i)):=by
   show (seg 8 (fun i=>u8 (R.regs i))++_).take 8=_;exact QZ (zw _ _)
  rw [e] at this;exact this
 have c1:=zhT (w:=X) (cap:=24) (zp0 fX hm) (by rw [lm];omega) (fun h=>by cases h);rw [lm,<- cut 19 7] at c1;refine cmo c1 ?_;rintro e Y1 ⟨⟨q1,k1,rfl,o1⟩,hb1⟩;refine⟨hb1,?_⟩;have hw1:=zst hbX hb1;have c2:=zie (w:=Y1) (cap:=24) ((sd (o:=187) (g:=R.data) fun i hi=>zi9 R hi).below hb1) (by rw [lm];exact hm) (fun x hx=>by
  obtain⟨i,hi,rfl⟩:=UL.1 hx;exact (hB i (Uq.1 hi)).1) (hT.below hw1)
 rw [lm,<- cut 187 1,zc6] at c2;refine cmo c2 ?_;rintro e Y2 ⟨⟨q2,k2,rfl,o2⟩,hb2⟩;refine⟨hb2,?_⟩;have hx2:=zst hb1 hb2;have hw2:=zst hbX hx2;have c3:=zie (w:=Y2) (cap:=24) ((sd (o:=211) (g:=R.ctrl) fun i hi=>zja R hi).below hx2) (by rw [lm];exact hm) (fun x hx=>by
  obtain⟨i,hi,rfl⟩:=UL.1 hx;exact (hB i (Uq.1 hi)).2.1) (hT.below hw2)
 rw [lm,<- cut 211 1,zc6] at c3;refine cmo c3 ?_;rintro e Y3 ⟨⟨q3,k3,rfl,o3⟩,hb3⟩;refine⟨hb3,?_⟩;have hx3:=zst hx2 hb3;have hw3:=zst hbX hx3;have c4:=zie (w:=Y3) (cap:=24) ((sd (o:=235) (g:=R.att) fun i hi=>zh4 R hi).below hx3) (by rw [lm];exact hm) (fun x hx=>by
  obtain⟨i,hi,rfl⟩:=UL.1 hx;exact (hB i (Uq.1 hi)).2.2) (hT.below hw3)
 rw [lm,<- cut 235 1,zc6] at c4;refine cmo c4 ?_;rintro e Y4 ⟨⟨q4,k4,rfl,o4⟩,hb4⟩;refine⟨hb4,?_⟩;have hx4:=zst hx3 hb4;have hw4:=zst hbX hx4;have le1:(za8 R).ev.length=R.many:=lm _;obtain⟨cs,hcs⟩:=nm (zgQ (za8 R) q1 k1 q2 k2 q3 k3 q4 k4);refine⟨cs,by rw [hcs];unfold zgQ;rw [le1];rfl,?_⟩;have f4:=zb hx4 f0X;have hone:cs.all Value.oneCell'=true:=by rw [hcs];exact zjl ..
 have hlen:cs.length=12:=by rw [hcs];exact zjm ..
 refine zJ (v := .agg cs.toArray) k73 f4 hlen (by rw [hZ0];rfl) hone ?_;have f5:=zA (cs':=(Value.agg cs.toArray).cells) f4;have hs:w.heap.size<=X.heap.size:=hbX.size;have keep:∀ {α:Type} {E:Enc α} {T B c:Nat} {p:OA} {l:List α},X.heap.size<=B->OwnS E T B Y4 p c l->OwnS E T w.heap.size (Y4.setRow w.heap.size (Value.agg cs.toArray).cells) p c l:=fun {α E T B c p l} hB o=>by
  refine OwnS.lower (o.kept (ju Y4 w.heap.size _) fun g hg e=>?_) (UO hs hB);rcases o.inv with ⟨h,_⟩ | ⟨g',cur,h,h2,_⟩
  ·rw [h] at hg;cases hg
  ·rw [h] at hg;simp only [Qc,Uw,Gk] at hg e;have:=hlt f0X;omega
 have n1:=hb1.size;have n2:=hb2.size;have n3:=hb3.size;refine⟨cs,hlen,za f5,⟨q1,k1,q2,k2,q3,k3,q4,k4,by rw [hcs];rfl,keep (UY _) (((o1.below hb2).below hb3).below hb4),keep (by omega) ((o2.below hb3).below hb4),keep (by omega) (o3.below hb4),keep (by omega) o4⟩,zC hw4 (UY _) _⟩
end
theorem jP (c : UInt8) (w : Wd) : Calls PG 118 #[u8 c] w fun e w' => e = .returned (i64 (z7 c)) ∧ w = w' := by
  refine zdL (S := sg 47) (zbe _) (args := [u8 c]) (.s .p (.c .p .p)) Tryz.func118 rfl rfl (JU rfl) rfl ?_
  refine ⟨Unit, fun _ => ⟨[(0, u8 c)], []⟩, fun _ X => ze7 c = false ∧ zgm c = false ∧ w = X, ?_, ?_⟩
  · repeat first
      | exact ⟨(), ⟨.cons rfl .nil, rfl⟩, by unfold ze7; simp only [*]; rfl, by unfold zgm; simp only [*]; rfl, rfl⟩
      | exact ⟨by
          first
          | (have e : ze7 c = true := by unfold ze7; simp only [*]; rfl
             unfold z7; rw [e]; rfl)
          | (have e1 : ze7 c = false := by unfold ze7; simp only [*]; rfl
             have e2 : zgm c = true := by unfold zgm; simp only [*]; rfl
             unfold z7; rw [e1, e2]; rfl), rfl⟩
      | refine brT ?_
      | refine brF ?_
      | refine brE (by assumption) ?_
      | refine brN (by assumption) ?_
      | refine Gi (fun h => ?_) (fun h => ?_)
  rintro _ _ ⟨h1, h2, rfl⟩
  have key : z7 c = (bif eqB c 32 || eqB c 9 then 1 else bif eqB c 10 then 2 else bif eqB c 95 then 5 else bif eqB c 35 then 7 else bif zlN c then 6 else 0) := by unfold z7; rw [h1, h2]; rfl
  rw [key]
  clear key h1 h2
  unfold zlN
  refine Gi (fun h => ?_) (fun h => ?_)
  · have h : eqB c 32 = true := h
    refine brE h ?_
    exact ⟨by rw [h]; rfl, rfl⟩
  have h32 : eqB c 32 = false := h
  refine Gi (fun h => ?_) (fun h => ?_)
  · have h : eqB c 9 = true := h
    exact ⟨by rw [h32, h]; rfl, rfl⟩
  have h9 : eqB c 9 = false := h
  refine Gi (fun h => ?_) (fun h => ?_)
  · have h : eqB c 10 = true := h
    exact ⟨by rw [h32, h9, h]; rfl, rfl⟩
  have h10 : eqB c 10 = false := h
  refine Gi (fun h => ?_) (fun h => ?_)
  · have h : eqB c 95 = true := h
    exact ⟨by rw [h32, h9, h10, h]; rfl, rfl⟩
  have h95 : eqB c 95 = false := h
  refine Gi (fun h => ?_) (fun h => ?_)
  · have h : eqB c 35 = true := h
    exact ⟨by rw [h32, h9, h10, h95, h]; rfl, rfl⟩
  have h35 : eqB c 35 = false := h
  rw [h32, h9, h10, h95, h35]
  refine Gi (fun h => ?_) (fun h => ?_)
  · have h : eqB c 61 = true := h
    refine brE h ?_
    exact ⟨by rw [h]; rfl, rfl⟩
  have h61 : eqB c 61 = false := h
  refine Gi (fun h => ?_) (fun h => ?_)
  · have h : eqB c 43 = true := h
    refine brE h ?_
    exact ⟨by rw [h61, h]; rfl, rfl⟩
  have h43 : eqB c 43 = false := h
  refine Gi (fun h => ?_) (fun h => ?_)
  · have h : eqB c 45 = true := h
    refine brE h ?_
    exact ⟨by rw [h61, h43, h]; rfl, rfl⟩
  have h45 : eqB c 45 = false := h
  refine Gi (fun h => ?_) (fun h => ?_)
  · have h : eqB c 94 = true := h
    refine brE h ?_
    exact ⟨by rw [h61, h43, h45, h]; rfl, rfl⟩
  have h94 : eqB c 94 = false := h
  refine Gi (fun h => ?_) (fun h => ?_)
  · have h : eqB c 38 = true := h
    refine brE h ?_
    exact ⟨by rw [h61, h43, h45, h94, h]; rfl, rfl⟩
  have h38 : eqB c 38 = false := h
  refine Gi (fun h => ?_) (fun h => ?_)
  · have h : eqB c 124 = true := h
    refine brE h ?_
    exact ⟨by rw [h61, h43, h45, h94, h38, h]; rfl, rfl⟩
  have h124 : eqB c 124 = false := h
  refine Gi (fun h => ?_) (fun h => ?_)
  · have h : eqB c 33 = true := h
    refine brE h ?_
    exact ⟨by rw [h61, h43, h45, h94, h38, h124, h]; rfl, rfl⟩
  have h33 : eqB c 33 = false := h
  refine Gi (fun h => ?_) (fun h => ?_)
  · have h : eqB c 40 = true := h
    refine brE h ?_
    exact ⟨by rw [h61, h43, h45, h94, h38, h124, h33, h]; rfl, rfl⟩
  have h40 : eqB c 40 = false := h
  refine Gi (fun h => ?_) (fun h => ?_)
  · have h : eqB c 41 = true := h
    refine brE h ?_
    exact ⟨by rw [h61, h43, h45, h94, h38, h124, h33, h40, h]; rfl, rfl⟩
  have h41 : eqB c 41 = false := h
  refine Gi (fun h => ?_) (fun h => ?_)
  · have h : eqB c 58 = true := h
    refine brE h ?_
    exact ⟨by rw [h61, h43, h45, h94, h38, h124, h33, h40, h41, h]; rfl, rfl⟩
  have h58 : eqB c 58 = false := h
  refine Gi (fun h => ?_) (fun h => ?_)
  · have h : eqB c 60 = true := h
    exact ⟨by rw [h61, h43, h45, h94, h38, h124, h33, h40, h41, h58, h]; rfl, rfl⟩
  have h60 : eqB c 60 = false := h
  exact ⟨by rw [h61, h43, h45, h94, h38, h124, h33, h40, h41, h58, h60]; rfl, rfl⟩
theorem zjF (c : UInt8) (w : Wd) : Calls PG 120 #[u8 c] w fun e w' => e = .returned (.bool (qt c)) ∧ w = w' := by
  refine jl (S := sg 16) (zbe _) (args := [u8 c]) Tryz.func120 rfl rfl (JU rfl) rfl ?_
  refine Ge (jP c w) ?_
  rintro e _ ⟨rfl, rfl⟩
  have e3 : ∀ k : Nat, decide ((z7 c : Int) = (k : Int)) = decide (z7 c = k) := fun k => by rw [QI]; omega
  refine Gi (fun h => ?_) (fun h => ?_)
  · have h : decide (z7 c = 3) = true := (e3 3).symm.trans h
    refine Gi (fun _ => ?_) (fun h => by cases h)
    exact ⟨rb (by unfold qt; rw [h]; rfl), rfl⟩
  have h3 : decide (z7 c = 3) = false := (e3 3).symm.trans h
  refine Gi (fun h => ?_) (fun h => ?_)
  · have h : decide (z7 c = 4) = true := (e3 4).symm.trans h
    exact ⟨rb (by unfold qt; rw [h3, h]; rfl), rfl⟩
  have h4 : decide (z7 c = 4) = false := (e3 4).symm.trans h
  exact ⟨rb (by unfold qt; rw [h3, h4]; exact e3 5), rfl⟩
theorem zbq {p:UInt8->Bool} {s:List UInt8} {k:Nat} (h:k<s.length):jH p (s.drop k)=if p s[k] then jH p (s.drop (k+1))+1 else 0:=by
 rw [Jq h];rfl
theorem zfq {p:UInt8->Bool} {s:List UInt8} {k:Nat} (h:s.length<=k):jH p (s.drop k)=0:=by
 rw [JE h];rfl
theorem zjG {p:UInt8->Bool} (s:List UInt8) (k:Nat) (h:k<=s.length):k+jH p (s.drop k)<=s.length:=by
 have:=zjb p (s.drop k);rw [Qw] at this;omega
theorem zbL {a b:Nat}:decide ((a:Int)=(b:Int))=decide (a=b):=by rw [QI];omega
theorem zcf {s:List UInt8} {k:Nat} (h:k<s.length):(bs s).data.toList[k]?=some s[k]:=by
 show s[k]?=_;exact gE h
theorem zii {g a:Nat} {s:List UInt8} {w:Wd} (h:zx w ⟨g,0,none⟩ [qk s,i64 a]) :
  CB 166 #[At0 g] w (.bool (decide (s.length<=a))):=by
 refine zI 13 [At0 g] Tryz.func166 ?_;refine DrawE.ord [] [0,1,2,3,4,5,6,7,8,9,10] (by kernel_rfl) ?_;have h:zx w.drew ⟨g,0,none⟩ [qk s,i64 a]:=jk rfl h;refine⟨_,zc h (i:=1) rfl,_,zc h (i:=0) rfl,rb ?_,(Gd _ _).drew⟩;show decide ((s.length:Int)<=(a:Int))=_;rw [QI];omega
theorem zl6 {g a:Nat} {s:List UInt8} {w:Wd} (h:zx w ⟨g,0,none⟩ [qk s,i64 a]) (hg:g<w.heap.size) :
  CB 164 #[At0 g] w (.bool (jS s a)):=by
 refine zI 18 [At0 g] Tryz.func164 ?_;refine DrawE.ord [] [0,1,2,3,4,5,6,7,8,9,10,11,12,13,14,15] (by kernel_rfl) ?_;have h:zx w.drew ⟨g,0,none⟩ [qk s,i64 a]:=jk rfl h;refine cmo (zii h) ?_;rintro e V ⟨rfl,hb⟩;refine⟨hb,?_⟩;have hw:=(Gd w.heap.size w).drew.trans hb;have hV:=jK hb hg h;refine biE (fun ho=>?_) fun ho=>?_
 ·have ho:s.length<=a:=dT ho;have:jS s a=true:=by unfold jS;rw [JM ho]
  exact⟨rb this.symm,hw⟩
 ·have ho:¬ s.length<=a:=dF ho;have hl:a<s.length:=by omega
  refine⟨_,zc hV (i:=0) rfl,_,zc hV (i:=1) rfl,a,rfl,hl,s[a],zcf hl,cmo (jP _ _) ?_⟩;rintro e _ ⟨rfl,rfl⟩;refine⟨Gd _ _,?_⟩;have:jS s a=decide (z7 s[a]=2):=by unfold jS;rw [gE hl]
  exact⟨rb (by rw [this];exact zbL),hw⟩
theorem zmd {g a:Nat} {s:List UInt8} {w:Wd} (h:zx w ⟨g,0,none⟩ [qk s,i64 a]) (ha:a<s.length) (hs:s.length<=140737488351232) :
  Calls PG 171 #[At0 g] w fun e w'=>e = .returned (i64 (a+1+jH qt (s.drop (a+1)):Nat))/\w=w':=by
 refine zI 28 [At0 g] Tryz.func171 ?_;refine⟨_,zc h (i:=1) rfl,(a+1:Nat),(ze (by omega)).trans (by omega),Nat,fun k=>⟨[(0,At0 g),(3,.int .i64 (k:Nat))],[]⟩,fun k X=>k<=s.length/\k+jH qt (s.drop k)=a+1+jH qt (s.drop (a+1))/\w=X,fun k=>s.length-k,a+1,(cvE rfl rfl),⟨ha,rfl,rfl⟩,?_⟩;rintro k _ ⟨hk,he,rfl⟩;dsimp only at hk he ⊢;refine⟨_,zc h (i:=0) rfl,biE (fun hc=>?_) fun hc=>?_⟩
 ·have hc:(k:Int)<(s.length:Int):=dT hc;have hl:k<s.length:=by omega
  refine⟨_,zc h (i:=0) rfl,k,rfl,hl,s[k],zcf hl,cmo (zjF _ _) ?_⟩;rintro e _ ⟨rfl,rfl⟩;refine biE (fun hi=>?_) fun hi=>?_
  ·refine⟨(k+1:Nat),(ze (by omega)).trans (by omega),k+1,(cvE rfl rfl),⟨hl,?_,rfl⟩,zdc (by omega)⟩;rw [zbq hl,Gr hi] at he;omega
  ·have hi:¬ qt s[k]=true:=by rw [Ql];exact hi
   rw [zbq hl,Gq hi] at he;exact⟨by rw [<- he];rfl,rfl⟩
 ·have hc:¬ (k:Int)<(s.length:Int):=dF hc;refine Gi (fun h=>by cases h) (fun _=>?_);rw [zfq (by omega)] at he;exact⟨by rw [<- he];rfl,rfl⟩
theorem zjs {g a:Nat} {s:List UInt8} {w:Wd} (h:zx w ⟨g,0,none⟩ [qk s,i64 a]) (ha:a<s.length) (hs:s.length<=140737488351232) :
  Calls PG 172 #[At0 g] w fun e w'=>e = .returned (i64 (a+1+jH za6 (s.drop (a+1)):Nat))/\w=w':=by
 refine zI 29 [At0 g] Tryz.func172 ?_;refine⟨_,zc h (i:=1) rfl,(a+1:Nat),(ze (by omega)).trans (by omega),Nat,fun k=>⟨[(0,At0 g),(3,.int .i64 (k:Nat))],[]⟩,fun k X=>k<=s.length/\k+jH za6 (s.drop k)=a+1+jH za6 (s.drop (a+1))/\w=X,fun k=>s.length-k,a+1,(cvE rfl rfl),⟨ha,rfl,rfl⟩,?_⟩;rintro k _ ⟨hk,he,rfl⟩;dsimp only at hk he ⊢;refine⟨_,zc h (i:=0) rfl,biE (fun hc=>?_) fun hc=>?_⟩
 ·have hc:(k:Int)<(s.length:Int):=dT hc;have hl:k<s.length:=by omega
  refine⟨_,zc h (i:=0) rfl,k,rfl,hl,s[k],zcf hl,cmo (jP _ _) ?_⟩;rintro e _ ⟨rfl,rfl⟩;have hd:decide ((z7 s[k]:Int)=4)=za6 s[k]:=zbL (b:=4);refine biE (fun hi=>?_) fun hi=>?_
  ·refine⟨(k+1:Nat),(ze (by omega)).trans (by omega),k+1,(cvE rfl rfl),⟨hl,?_,rfl⟩,zdc (by omega)⟩;rw [zbq hl,Gr (hd.symm.trans hi)] at he;omega
  ·have hi:¬ za6 s[k]=true:=by rw [Ql];exact hd.symm.trans hi
   rw [zbq hl,Gq hi] at he;exact⟨by rw [<- he];rfl,rfl⟩
 ·have hc:¬ (k:Int)<(s.length:Int):=dF hc;refine Gi (fun h=>by cases h) (fun _=>?_);rw [zfq (by omega)] at he;exact⟨by rw [<- he];rfl,rfl⟩
def zfK (s:List UInt8) (a:Nat) (c:UInt8):Nat:=if (eqB c 61||eqB c 33)&&decide (s[a+1]?=some 61) then a+2 else a+1
theorem zmn {g a:Nat} {s:List UInt8} {w:Wd} (h:zx w ⟨g,0,none⟩ [qk s,i64 a]) (ha:a<s.length) (hs:s.length<=140737488351232) :
  CB 170 #[At0 g] w (i64 (zfK s a s[a])):=by
 refine qX 46 [At0 g] (.s .p (.s .p (.s .p (.c .p .p)))) Tryz.func170 ?_;refine⟨_,zc h (i:=1) rfl,(a+1:Nat),(ze (by omega)).trans (by omega),DrawE.ord [] [0,1,2,3,4,5,6,7,8,9] (by kernel_rfl) ?_⟩;have hd:zx w.drew ⟨g,0,none⟩ [qk s,i64 a]:=jk rfl h;refine⟨_,zc hd (i:=0) rfl,_,zc hd (i:=1) rfl,a,rfl,ha,s[a],zcf ha,Unit,fun _=>⟨[(3,i64 (zfK s a s[a]))],[]⟩,fun _ X=>X=w.drew,?_,?_⟩
 ·have no:((eqB s[a] 61||eqB s[a] 33)&&decide (s[a+1]?=some 61))=false->∃ _:Unit,some (Value.int .i64 ((a+1:Nat):Int))=some (i64 (zfK s a s[a])):=fun hf=>⟨(),by unfold zfK;rw [hf];rfl⟩;refine biE (fun h1=>?_) fun h1=>?_
  ·have he:(eqB s[a] 61||eqB s[a] 33)=true:=by
    have:eqB s[a] 61=true:=h1;rw [this];rfl
   refine brT ⟨_,zc hd (i:=0) rfl,biE (fun h2=>?_) fun h2=>?_⟩
   ·have h2:((a+1:Nat):Int)<(s.length:Int):=dT h2;have hl:a+1<s.length:=(by omega);refine⟨_,zc hd (i:=0) rfl,a+1,rfl,hl,s[a+1],zcf hl,biE (fun h3=>?_) fun h3=>?_⟩
    ·refine⟨(a+2:Nat),(ze (by omega)).trans (by omega),(),⟨.cons ?_ .nil,rfl⟩,rfl⟩;have h61:s[a+1]=61:=by
      apply Ui.1;have:((s[a+1].toNat:Nat):Int)=61:=dT h3;have h6:(61:UInt8).toNat=61:=rfl;omega
     unfold zfK;rw [he,gE hl,h61];rfl
    ·obtain⟨_,e⟩:=no (by
      have h61:¬ s[a+1]=61:=fun e=>by rw [e] at h3;cases h3
      rw [gE hl,Uj (by simpa using h61),Uk])
     exact⟨(),⟨.cons e .nil,rfl⟩,rfl⟩
   ·have h2:¬ ((a+1:Nat):Int)<(s.length:Int):=dF h2;refine brF ?_;obtain⟨_,e⟩:=no (by rw [JM (by omega)];simp);exact⟨(),⟨.cons e .nil,rfl⟩,rfl⟩
  ·have h1:eqB s[a] 61=false:=h1;refine biE (fun h1b=>?_) fun h1b=>?_
   ·have he:(eqB s[a] 61||eqB s[a] 33)=true:=by
     have:eqB s[a] 33=true:=h1b;rw [this,Bool.or_true]
    refine⟨_,zc hd (i:=0) rfl,biE (fun h2=>?_) fun h2=>?_⟩
    ·have h2:((a+1:Nat):Int)<(s.length:Int):=dT h2;have hl:a+1<s.length:=(by omega);refine⟨_,zc hd (i:=0) rfl,a+1,rfl,hl,s[a+1],zcf hl,biE (fun h3=>?_) fun h3=>?_⟩
     ·refine⟨(a+2:Nat),(ze (by omega)).trans (by omega),(),⟨.cons ?_ .nil,rfl⟩,rfl⟩;have h61:s[a+1]=61:=by
       apply Ui.1;have:((s[a+1].toNat:Nat):Int)=61:=dT h3;have h6:(61:UInt8).toNat=61:=rfl;omega
      unfold zfK;rw [he,gE hl,h61];rfl
     ·obtain⟨_,e⟩:=no (by
       have h61:¬ s[a+1]=61:=fun e=>by rw [e] at h3;cases h3
       rw [gE hl,Uj (by simpa using h61),Uk])
      exact⟨(),⟨.cons e .nil,rfl⟩,rfl⟩
    ·have h2:¬ ((a+1:Nat):Int)<(s.length:Int):=dF h2;refine brF ?_;obtain⟨_,e⟩:=no (by rw [JM (by omega)];simp);exact⟨(),⟨.cons e .nil,rfl⟩,rfl⟩
   ·have h1b:eqB s[a] 33=false:=h1b;refine brF (brF ?_);obtain⟨_,e⟩:=no (by rw [h1,h1b];rfl);exact⟨(),⟨.cons e .nil,rfl⟩,rfl⟩
 rintro _ _ rfl;exact⟨rfl,(Gd _ _).drew⟩
def ScV (X:Wd) (g:Nat) (s:List UInt8) (a:Nat) (op:Bool):Prop:=X.heap[g]?=some (.cells #[qk s,i64 a,.bool op] 202 (0,0))
theorem ScV.cells {X:Wd} {g a:Nat} {s:List UInt8} {op:Bool} (h:ScV X g s a op):zx X ⟨g,0,none⟩ [qk s,i64 a]:=by
 have:=qu (o:=0) (n:=2) h;exact this
theorem ScV.below {X Y:Wd} {g a:Nat} {s:List UInt8} {op:Bool} (h:ScV X g s a op) (hb:Bw X Y):ScV Y g s a op:=zb hb h
theorem zfw {a b c:Wd} {g:Nat} (h:a.grownBy b (some g)) (k:Bw b c):a.grownBy c (some g):=zd h (zf k)
theorem zeC {X:Wd} {g a:Nat} {s:List UInt8} {op:Bool} (h:ScV X g s a op) (v:Nat) {K:Wd->Prop} (k:∀ Y,ScV Y g s v op->X.grownBy Y (some g)->Y.heap.size=X.heap.size->K Y) :
  SatR ((storeVar 3 ⟨g,1,none⟩ (i64 v)).run PG X) fun _ w'=>K w' :=
 qS k3 rfl h (o:=1) (by show 1<3;omega) (v:=i64 v) rfl rfl fun Y fY gY sY=>k Y fY gY sY
theorem zjj {X:Wd} {g a:Nat} {s:List UInt8} {op:Bool} (h:ScV X g s a op) (v:Bool) {K:Wd->Prop} (k:∀ Y,ScV Y g s a v->X.grownBy Y (some g)->Y.heap.size=X.heap.size->K Y) :
  SatR ((storeVar 4 ⟨g,2,none⟩ (.bool v)).run PG X) fun _ w'=>K w' :=
 qS k4 rfl h (o:=2) (by show 2<3;omega) (v := .bool v) rfl rfl fun Y fY gY sY=>k Y fY gY sY
theorem zci {s:List UInt8} {k:Nat} (h:k<s.length):jS s k=decide (z7 s[k]=2):=by unfold jS;rw [gE h]
theorem zgI {s:List UInt8} {k:Nat} (h:s.length<=k):jS s k=true:=by unfold jS;rw [JM h]
theorem zq3 {g a:Nat} {s:List UInt8} {op:Bool} {w:Wd} (h:ScV w g s a op) (ha:a<=s.length) (hs:s.length<=140737488351232) :
  Calls PG 163 #[At0 g] w fun e w'=>(∃ v,e = .returned v)/\ScV w' g s (zD s a) op/\w.grownBy w' (some g):=by
 refine qX 50 [At0 g] (.c .p (.c .p .p)) Tryz.func163 ?_;obtain⟨b,hb⟩:=nm (zbQ s a);have hbl:b<=s.length:=by rw [hb];exact zjG s a ha
 refine⟨Unit,fun _=>⟨[(0,At0 g)],[]⟩,fun _ X=>ScV X g s b op/\w.grownBy X (some g),?_,?_⟩
 ·refine⟨Nat,fun k=>⟨[(0,At0 g)],[]⟩,fun k X=>k<=s.length/\k+jH ziH (s.drop k)=b/\ScV X g s k op/\w.grownBy X (some g),fun k=>s.length-k,a,(cvE rfl rfl),⟨ha,hb.symm,h,z8 _ _⟩,?_⟩;rintro k X ⟨hk,he,hX,hg⟩;dsimp only at hk he ⊢;refine DrawE.ord [] [0,1,2,3,4,5,6,7,8,9,10,11,12,13,14,15] (by kernel_rfl) ?_;have hXd:ScV X.drew g s k op:=hX;refine cmo (zii hXd.cells) ?_;rintro e Y ⟨rfl,hbY⟩;refine⟨hbY,?_⟩;have hY:=hXd.below hbY;have gY:w.grownBy Y (some g):=zd hg (zf ((Gd _ X).drew.trans hbY));refine biE (fun ho=>?_) fun ho=>?_
  ·have ho:s.length > k:=by
    have:(!decide (s.length<=k))=true:=ho;simpa using this
   refine⟨_,zc hY.cells (i:=0) rfl,_,zc hY.cells (i:=1) rfl,k,rfl,ho,s[k],zcf ho,cmo (jP _ _) ?_⟩;rintro e _ ⟨rfl,rfl⟩;refine⟨Gd _ _,?_⟩;have hd:decide ((z7 s[k]:Int)=1)=ziH s[k]:=zbL (b:=1);rw [zbq ho] at he;refine biE (fun hi=>?_) fun hi=>?_
   ·rw [Gr (hd.symm.trans hi)] at he;exact⟨_,zc hY.cells (i:=1) rfl,(k+1:Nat),(ze (by omega)).trans (by omega),zeC hY (k+1) fun Z hZ gZ sZ=>⟨k+1,(cvE rfl rfl),⟨ho,by omega,hZ,zd gY gZ⟩,zdc (by omega)⟩⟩
   ·have hi:¬ ziH s[k]=true:=(by rw [Ql];exact hd.symm.trans hi);rw [Gq hi] at he;exact⟨(),(cvE rfl rfl),by rw [<- he];exact hY,gY⟩
  ·have ho:s.length<=k:=by
    have:(!decide (s.length<=k))=false:=ho;simpa using this
   refine brF ?_;rw [zfq ho] at he;exact⟨(),(cvE rfl rfl),by rw [<- he];exact hY,gY⟩
 clear h;rintro _ X ⟨hX,hg⟩;have hp:zD s a=match s[b]? with
   | some c=>if z7 c=7 then b+jH zdp (s.drop b) else b
   | none=>b:=by rw [hb];rfl
 refine⟨Unit,fun _=>⟨[(0,At0 g)],[]⟩,fun _ X=>(∃ hl:b<s.length,z7 s[b]=7)/\ScV X g s b op/\w.grownBy X (some g),?_,?_⟩
 ·refine DrawE.ord [] [0,1,2,3,4,5,6,7,8,9,10,11,12,13,14] (by kernel_rfl) ?_;have hXd:ScV X.drew g s b op:=hX;refine cmo (zii hXd.cells) ?_;rintro e Y ⟨rfl,hbY⟩;refine⟨hbY,?_⟩;have hY:=hXd.below hbY;have gY:w.grownBy Y (some g):=zd hg (zf ((Gd _ X).drew.trans hbY));refine biE (fun ho=>?_) fun ho=>?_
  ·have ho:s.length<=b:=dT ho;refine brT ?_;have:zD s a=b:=by rw [hp,JM ho]
   rw [this];exact⟨⟨_,rfl⟩,hY,gY⟩
  ·have ho:¬ s.length<=b:=dF ho;have hl:b<s.length:=by omega
   refine⟨_,zc hY.cells (i:=0) rfl,_,zc hY.cells (i:=1) rfl,b,rfl,hl,s[b],zcf hl,cmo (jP _ _) ?_⟩;rintro e _ ⟨rfl,rfl⟩;refine⟨Gd _ _,biE (fun hi=>?_) fun hi=>?_⟩
   ·have hi:¬ z7 s[b]=7:=by
     have h1:(!decide ((z7 s[b]:Int)=7))=true:=hi;simp at h1;omega
    have:zD s a=b:=(by rw [hp,gE hl];simp only [Gq hi]);rw [this];exact⟨⟨_,rfl⟩,hY,gY⟩
   ·have hi:z7 s[b]=7:=by
     have h1:(!decide ((z7 s[b]:Int)=7))=false:=hi;simp at h1;omega
    exact⟨(),(cvE rfl rfl),⟨hl,hi⟩,hY,gY⟩
 clear hX hg X;rintro _ X ⟨⟨hl,h7⟩,hX,hg⟩;have hp:zD s a=b+jH zdp (s.drop b):=by rw [hp,gE hl];simp only [Gr h7]
 rw [hp];refine⟨Nat,fun k=>⟨[(0,At0 g)],[]⟩,fun k X=>k<=s.length/\k+jH zdp (s.drop k)=b+jH zdp (s.drop b)/\ScV X g s k op/\w.grownBy X (some g),fun k=>s.length-k,b,(cvE rfl rfl),⟨hbl,rfl,hX,hg⟩,?_⟩;clear hX hg X;rintro k X ⟨hk,he,hX,hg⟩;dsimp only at hk he ⊢;refine cmo (zl6 hX.cells (hlt hX)) ?_;rintro e Y ⟨rfl,hbY⟩;have hY:=hX.below hbY;have gY:=zfw hg hbY;refine biE (fun hi=>?_) fun hi=>?_
 ·have hi:jS s k=false:=by
   have h1:(!jS s k)=true:=hi;simpa using h1
  have hkl:k<s.length:=by
   by_cases h0:k<s.length
   ·exact h0
   ·rw [zgI (by omega)] at hi;cases hi
  have hn:zdp s[k]=true:=by
   rw [zci hkl] at hi;unfold zdp;rw [hi];rfl
  rw [zbq hkl,Gr hn] at he;exact⟨_,zc hY.cells (i:=1) rfl,(k+1:Nat),(ze (by omega)).trans (by omega),zeC hY (k+1) fun Z hZ gZ sZ=>⟨k+1,(cvE rfl rfl),⟨hkl,by omega,hZ,zd gY gZ⟩,zdc (by omega)⟩⟩
 ·have hi:jS s k=true:=by
   have h1:(!jS s k)=false:=hi;simpa using h1
  have h0:jH zdp (s.drop k)=0:=by
   by_cases h0:k<s.length
   ·rw [zci h0] at hi;rw [zbq h0,Gq];unfold zdp;rw [hi];decide
   ·exact zfq (by omega)
  rw [h0] at he;have he:k=b+jH zdp (s.drop b):=by omega
  exact⟨⟨_,rfl⟩,by rw [<- he];exact hY,gY⟩
theorem zlE {s:List UInt8} {a:Nat} (ha:a<=s.length):zD s a<=s.length:=by
 have h1:zbQ s a<=s.length:=zjG s a ha;unfold zD
 split
 ·split
  ·exact zjG s _ h1
  ·exact h1
 ·exact h1
def ji:Enc Tok:=⟨fun t=>[u8 t.kind,qk t.text,i64 t.pos],3,fun _=>rfl,by decide,fun a u hu=>by
 simp only [UE,Qy,Gn] at hu;rcases hu with rfl | rfl | rfl <;> rfl⟩
theorem zkV {s:List UInt8} {a:Nat} (ha:a<s.length) (c:UInt8):a<zaI s a c/\zaI s a c<=s.length:=by
 unfold zaI
 split
 ·have:=zjG (p:=qt) s (a+1) ha;omega
 ·split
  ·have:=zjG (p:=za6) s (a+1) ha;omega
  ·split
   ·rename_i h;have h2:s[a+1]?=some 61:=by
     simp only [bAT,dE] at h;exact h.2
    have:=(Js.1 h2).1;omega
   ·omega
theorem zk6 (s:List UInt8) (a e:Nat):(bs s).extract a e=bs ((s.drop a).take (e-a)):=by
 have h:((bs s).extract a e).data=(bs ((s.drop a).take (e-a))).data:=by
  rw [ByteArray.data_extract];apply Qh.1;rw [JV];rfl
 exact ByteArray.ext h
theorem zpm {g a:Nat} {s:List UInt8} {op:Bool} {w:Wd} (h:ScV w g s a op) (ha:a<s.length) (hs:s.length<=140737488351232) :
  Calls PG 165 #[At0 g] w fun e w'=>e = .returned (.agg (ji.enc (ziZ s a s[a])).toArray)/\ScV w' g s (zaI s a s[a]) op/\w.grownBy w' (some g):=by
 refine qX 51 [At0 g] (.s .p (.s .p (.c .p .p))) Tryz.func165 ?_;obtain⟨z,hz⟩:=nm (ji.enc ⟨0,[],0⟩);obtain⟨W0,hW0⟩:=nm ((w.alloc (.cells z.toArray 175)));have hb0:Bw w W0:=by rw [hW0];exact (zba _ _)
 have f0:W0.heap[w.heap.size]?=some (.cells z.toArray 175 (0,0)):=by rw [hW0];exact zz w _
 have h0:ScV W0 g s a op:=h.below hb0;have hgl:g<w.heap.size:=hlt h;refine⟨Nat,fun f=>⟨[(0,At0 g),(2,.pointer (some ⟨w.heap.size,0,none⟩)),(3,u8 (ze6 s[a])),(4,.func (.func f) #[] #[])],[]⟩,fun f X=>Bw W0 X /\
  ((z7 s[a]=3/\f=171)\/(¬ z7 s[a]=3/\z7 s[a]=4/\f=172)\/(¬ z7 s[a]=3/\¬ z7 s[a]=4/\f=170)),?_,?_⟩
 ·subst hz;subst hW0;refine DrawE.ord [] [0,1,2,3,4,5,6,7,8,9,10,11] (by kernel_rfl) ?_;have hd:ScV (w.alloc (.cells (ji.enc ⟨0,[],0⟩).toArray 175)).drew g s a op:=h0;refine⟨_,zc hd.cells (i:=0) rfl,_,zc hd.cells (i:=1) rfl,a,rfl,ha,s[a],zcf ha,cmo (jP _ _) ?_⟩;rintro e _ ⟨rfl,rfl⟩;refine⟨Gd _ _,biE (fun h3=>?_) fun h3=>?_⟩
  ·have h3:z7 s[a]=3:=by have h3:(z7 s[a]:Int)=3:=dT h3;omega
   exact⟨_,⟨.cons rfl (.cons rfl (.cons (by unfold ze6;rw [Gr h3];rfl) (.cons rfl .nil))),rfl⟩,(Gd _ _).drew,.inl ⟨h3,rfl⟩⟩
  have h3:¬ z7 s[a]=3:=by have h3:¬ (z7 s[a]:Int)=3:=dF h3;omega
  refine biE (fun h4=>?_) fun h4=>?_
  ·have h4:z7 s[a]=4:=by have h4:(z7 s[a]:Int)=4:=dT h4;omega
   exact⟨_,⟨.cons rfl (.cons rfl (.cons (by unfold ze6;rw [Gq h3,Gr h4];rfl) (.cons rfl .nil))),rfl⟩,(Gd _ _).drew,.inr (.inl ⟨h3,h4,rfl⟩)⟩
  ·have h4:¬ z7 s[a]=4:=by have h4:¬ (z7 s[a]:Int)=4:=dF h4;omega
   exact⟨_,⟨.cons rfl (.cons rfl (.cons (by unfold ze6;rw [Gq h3,Gq h4];rfl) (.cons rfl .nil))),rfl⟩,(Gd _ _).drew,.inr (.inr ⟨h3,h4,rfl⟩)⟩
 rintro f V ⟨hV,hf⟩;dsimp only at hV hf ⊢;have hVs:=h0.below hV;obtain⟨e1,e2⟩:=zkV ha s[a];have fin:∀ Y,Bw V Y->∀ Z,ScV Z g s (zaI s a s[a]) op->Y.grownBy Z (some g)->Bw w Y/\Z.heap[w.heap.size]?=some (.cells z.toArray 175 (0,0))/\w.grownBy Z (some g):=fun Y hY Z hZ gZ=>by
  have hwY:=((zst hb0 hV)).trans (hY.mono (by have:=hb0.size;have:=hV.size;omega));have f1:=zb hY (zb hV f0);refine⟨hwY,(gZ.block _ (hlt f1) (fun e=>by simp only [Qc] at e;omega)).trans f1,zd (zf hwY) gZ⟩
 have last:∀ Z,Z.heap[w.heap.size]?=some (.cells z.toArray 175 (0,0))->w.grownBy Z (some g)->∀ R,Z.grownBy R (some w.heap.size)->w.grownBy R (some g):=fun Z _ gZ R gR =>
  ⟨gR.os.trans gZ.os,gR.tape.trans gZ.tape,gR.output.trans gZ.output,UO gZ.size gR.size,fun k hk hne=>(gR.block k (nL hk gZ.size) (fun e=>by simp only [Qc] at e;omega)).trans (gZ.block k hk hne)⟩
 have fill:∀ cs,cs=ji.enc (ziZ s a s[a])->∀ Z,Z.heap[w.heap.size]?=some (.cells z.toArray 175 (0,0))->∀ (K:Wd->Prop),(∀ R,R.heap[w.heap.size]?=some (.cells (ji.enc (ziZ s a s[a])).toArray 175 (0,0))->Z.grownBy R (some w.heap.size)->K R) ->
   SatR ((storeVar 175 ⟨w.heap.size,0,none⟩ (.agg cs.toArray)).run PG Z) fun _ w'=>K w':=fun cs hcs Z fZ K k=>by
  subst hz hcs;exact zJ (v := .agg (ji.enc (ziZ s a s[a])).toArray) zjD fZ rfl rfl rfl (k _ (zA fZ) (ju Z _ _))
 rcases hf with ⟨h3,rfl⟩ | ⟨h3,h4,rfl⟩ | ⟨h3,h4,rfl⟩
 ·refine⟨_,zc hVs.cells (i:=1) rfl,cmo (zmd hVs.cells ha hs) ?_⟩;rintro e _ ⟨rfl,rfl⟩;have hbY:Bw V V:=Gd _ _;have hVY:=hVs;have ee:a+1+jH qt (s.drop (a+1))=zaI s a s[a]:=by unfold zaI;rw [Gr h3]
  rw [ee];refine zeC hVY (zaI s a s[a]) fun Z hZ gZ sZ=>?_;obtain⟨hwY,fZ,gwZ⟩:=fin V hbY Z hZ gZ;refine DrawE.ord [15] [0,1,2,3,4,5,6,7,8,9,10,11,12,13,14,15] (by kernel_rfl) ?_;have hZd:ScV Z.drew g s (zaI s a s[a]) op:=hZ;refine⟨_,zc hZd.cells (i:=0) rfl,_,zc hZd.cells (i:=1) rfl,zaI s a s[a],rfl,e2,a,rfl,by omega,?_⟩;exact⟨[u8 (ze6 s[a]),.string ((bs s).extract a (zaI s a s[a])),i64 a],rfl,fill _ (by rw [zk6];rfl) Z.drew fZ _ fun R fR gR=>⟨_,rfl,za fR,rfl,(gR.block g (hlt hZd) (fun e=>by simp only [Qc] at e;omega)).trans hZd,last Z.drew fZ (zd gwZ (zf (Gd _ Z).drew)) R gR⟩⟩
 ·refine⟨_,zc hVs.cells (i:=1) rfl,cmo (zjs hVs.cells ha hs) ?_⟩;rintro e _ ⟨rfl,rfl⟩;have hbY:Bw V V:=Gd _ _;have hVY:=hVs;have ee:a+1+jH za6 (s.drop (a+1))=zaI s a s[a]:=by unfold zaI;rw [Gq h3,Gr h4]
  rw [ee];refine zeC hVY (zaI s a s[a]) fun Z hZ gZ sZ=>?_;obtain⟨hwY,fZ,gwZ⟩:=fin V hbY Z hZ gZ;refine DrawE.ord [15] [0,1,2,3,4,5,6,7,8,9,10,11,12,13,14,15] (by kernel_rfl) ?_;have hZd:ScV Z.drew g s (zaI s a s[a]) op:=hZ;refine⟨_,zc hZd.cells (i:=0) rfl,_,zc hZd.cells (i:=1) rfl,zaI s a s[a],rfl,e2,a,rfl,by omega,?_⟩;exact⟨[u8 (ze6 s[a]),.string ((bs s).extract a (zaI s a s[a])),i64 a],rfl,fill _ (by rw [zk6];rfl) Z.drew fZ _ fun R fR gR=>⟨_,rfl,za fR,rfl,(gR.block g (hlt hZd) (fun e=>by simp only [Qc] at e;omega)).trans hZd,last Z.drew fZ (zd gwZ (zf (Gd _ Z).drew)) R gR⟩⟩
 ·refine⟨_,zc hVs.cells (i:=1) rfl,cmo (zmn hVs.cells ha hs) ?_⟩;rintro e Y ⟨rfl,hbY⟩;have hVY:=hVs.below hbY;have ee:zfK s a s[a]=zaI s a s[a]:=by unfold zaI;rw [Gq h3,Gq h4];rfl
  rw [ee];refine zeC hVY (zaI s a s[a]) fun Z hZ gZ sZ=>?_;obtain⟨hwY,fZ,gwZ⟩:=fin Y hbY Z hZ gZ;refine DrawE.ord [15] [0,1,2,3,4,5,6,7,8,9,10,11,12,13,14,15] (by kernel_rfl) ?_;have hZd:ScV Z.drew g s (zaI s a s[a]) op:=hZ;refine⟨_,zc hZd.cells (i:=0) rfl,_,zc hZd.cells (i:=1) rfl,zaI s a s[a],rfl,e2,a,rfl,by omega,?_⟩;exact⟨[u8 (ze6 s[a]),.string ((bs s).extract a (zaI s a s[a])),i64 a],rfl,fill _ (by rw [zk6];rfl) Z.drew fZ _ fun R fR gR=>⟨_,rfl,za fR,rfl,(gR.block g (hlt hZd) (fun e=>by simp only [Qc] at e;omega)).trans hZd,last Z.drew fZ (zd gwZ (zf (Gd _ Z).drew)) R gR⟩⟩
def zdA (l:List UInt8):Nat:=l.foldl (fun v c=>10*v+(c.toNat-48)) 0
theorem zmH {s:List UInt8} {k:Nat} (h:k<s.length):zdA (s.take (k+1))=10*zdA (s.take k)+(s[k].toNat-48):=by
 unfold zdA;rw [tsg h,KW];rfl
theorem zqh {c:UInt8} (h:za6 c=true):48<=c.toNat/\c.toNat<=57:=by
 unfold za6 at h;have h:z7 c=4:=dT h;unfold z7 at h
 cases h1:ze7 c with
 | true=>rw [h1] at h;cases h
 | false =>
  rw [h1] at h
  cases h2:zgm c with
  | true=>unfold zgm at h2;simp at h2;omega
  | false =>
   rw [h2] at h
   revert h
   cases eqB c 32||eqB c 9 <;> cases eqB c 10 <;> cases eqB c 95 <;> cases eqB c 35 <;> cases zlN c <;> (intro h;cases h)
theorem zsm (s:List UInt8) (hs:s.length<=140737488351232) (w:Wd):Calls PG 167 #[qk s] w fun e w'=>∃ v,e = .returned (.tuple #[u8 v,.bool (zik s)])/\w=w':=by
 refine qX 47 [qk s] (.s .p (.c .p .p)) Tryz.func167 ?_;have hnl:zik s=(decide (1<=s.length)&&(decide (s.length<=3)&&(!(decide (s.head?=some 48)&&decide (1<s.length))&&(s.all za6&&decide (zdA s<=255))))):=rfl;refine⟨Unit,fun _=>⟨[(0,qk s)],[]⟩,fun _ X=>(1<=s.length/\s.length<=3/\(decide (s.head?=some 48)&&decide (1<s.length))=false)/\w=X,?_,?_⟩
 ·refine biE (fun h1=>?_) fun h1=>?_
  ·have h1:(s.length:Int)<1:=dT h1;exact brT (brT ⟨0,by rw [hnl,Uj (by omega)];rfl,rfl⟩)
  have h1:¬ (s.length:Int)<1:=dF h1;refine biE (fun h2=>?_) fun h2=>?_
  ·have h2:(3:Int)<(s.length:Int):=dT h2;exact brT ⟨0,by rw [hnl,Uj (p:=s.length<=3) (by omega)];simp;rfl,rfl⟩
  have h2:¬ (3:Int)<(s.length:Int):=dF h2;have h0:0<s.length:=by omega
  have hh:s.head?=some s[0]:=by rw [List.head?_eq_getElem?,gE h0]
  refine⟨0,rfl,h0,s[0],zcf h0,biE (fun h3=>?_) fun h3=>?_⟩
  ·have h3:s[0]=48:=by
    apply Ui.1;have h3:((s[0].toNat:Nat):Int)=48:=dT h3;have:(48:UInt8).toNat=48:=rfl;omega
   refine biE (fun h4=>?_) fun h4=>?_
   ·have h4:(1:Int)<(s.length:Int):=dT h4;exact⟨0,by rw [hnl,hh,h3,Uu (p:=1<s.length) (by omega)];simp;rfl,rfl⟩
   ·have h4:¬ (1:Int)<(s.length:Int):=dF h4;exact⟨(),(cvE rfl rfl),⟨by omega,by omega,by rw [Uj (p:=1<s.length) (by omega),Uk]⟩,rfl⟩
  ·refine brF ?_;exact⟨(),(cvE rfl rfl),⟨by omega,by omega,by
    have:¬ s[0]=48:=fun e=>by rw [e] at h3;cases h3
    rw [hh,Uj (by simpa using this),Ul]⟩,rfl⟩
 rintro _ _ ⟨⟨h1,h2,h3⟩,rfl⟩;have hnl:zik s=(s.all za6&&decide (zdA s<=255)):=by rw [hnl,Uu h1,Uu h2,h3];rfl
 rw [hnl];refine⟨Nat,fun k=>⟨[(0,qk s),(4,i64 (zdA (s.take k):Nat)),(25,i64 s.length),(26,i64 (k:Nat))],[]⟩,fun k X=>k<=s.length/\(∀ c∈s.take k,za6 c=true)/\zdA (s.take k)<10^k/\w=X,fun k=>s.length-k,0,(cvE rfl rfl),⟨Gb _,by simp,Nat.one_pos,rfl⟩,?_⟩;rintro k _ ⟨hk,hdg,hv,rfl⟩;dsimp only at hk hdg hv ⊢;refine biE (fun hc=>?_) fun hc=>?_
 ·have hc:(k:Int)<(s.length:Int):=dT hc;have hl:k<s.length:=by omega
  refine⟨k,rfl,hl,s[k],zcf hl,cmo (jP _ _) ?_⟩;rintro e _ ⟨rfl,rfl⟩;have hd:decide ((z7 s[k]:Int)=4)=za6 s[k]:=zbL (b:=4);refine biE (fun hi=>?_) fun hi=>?_
  ·have hi:za6 s[k]=false:=by
    have h1:(!decide ((z7 s[k]:Int)=4))=true:=hi;rw [hd] at h1;simpa using h1
   have:s.all za6=false:=by
    rw [KQ];exact⟨s[k],gM _,by rw [hi];simp⟩
   exact⟨0,by rw [this];rfl,rfl⟩
  ·have hi:za6 s[k]=true:=by
    have h1:(!decide ((z7 s[k]:Int)=4))=false:=hi;rw [hd] at h1;simpa using h1
   obtain⟨d1,d2⟩:=zqh hi;have hv3:zdA (s.take k)<1000:=nL hv (by
    have:k<=3:=(by omega);exact Kg (by decide) this)
   have hsn:=zmH hl;refine⟨((10*zdA (s.take k):Nat):Int),(ze (by omega)).trans (by omega),k,rfl,hl,s[k],zcf hl,((s[k].toNat-48:Nat):Int),(zdP (by omega)).trans (by omega),((s[k].toNat-48:Nat):Int),(ze (by omega)).trans (by omega),(zdA (s.take (k+1)):Int),(ze (by omega)).trans (by omega),(k+1:Nat),(ze (by omega)).trans (by omega),k+1,(cvE rfl rfl),⟨hl,?_,?_,rfl⟩,zdc (by omega)⟩
   ·rw [tsg hl];intro c hc;rcases QU.1 hc with hc | hc
    ·exact hdg c hc
    ·simp only [KD] at hc;rw [hc];exact hi
   ·rw [hsn,Nat.pow_succ];omega
 ·have hc:¬ (k:Int)<(s.length:Int):=dF hc;obtain rfl:k=s.length:=by omega
  rw [Qz] at hdg hv;have ha:s.all za6=true:=Qm.2 hdg;rw [ha,Qz];have hv3:zdA s<1000:=nL hv (Kg (by decide) h2);refine biE (fun h5=>?_) fun h5=>?_
  ·have h5:(255:Int)<(zdA s:Int):=dT h5;exact⟨0,by rw [Uj (by omega)];rfl,rfl⟩
  ·have h5:¬ (255:Int)<(zdA s:Int):=dF h5;exact⟨((UInt8.ofNat (zdA s)).toNat:Int),(zdP (by omega)).trans (by rw [KK];omega),UInt8.ofNat (zdA s),by rw [Uu (by omega)];rfl,rfl⟩
theorem zrg {t:Tok} (h:t.kind=3) (hl:0<t.text.length):jo t=if z7 t.text[0]=6 then 0 else 40:=by
 obtain⟨k,x,p⟩:=t;have h:k=3:=h;subst h
 cases x with
 | nil=>exact Gs hl (Nat.lt_irrefl 0)
 | cons a r=>rfl
theorem zpS (t:Tok) (ht:t.kind=3->t.text≠[]) (hs:t.text.length<=140737488351232) (w:Wd):CB 154 #[.agg (ji.enc t).toArray] w (i64 (jo t)):=by
 refine zI 30 [.agg (ji.enc t).toArray] Tryz.func154 ?_;have hb0:Bw w (w.alloc (.cells (ji.enc t).toArray 175)):=zba _ _;have f0:=zz w (.cells (ji.enc t).toArray 175);have c0:zx (w.alloc (.cells (ji.enc t).toArray 175)) ⟨w.heap.size,0,none⟩ [u8 t.kind,qk t.text,i64 t.pos]:=za f0;have kd:∀ k:UInt8,decide ((t.kind.toNat:Int)=(k.toNat:Int))=decide (t.kind=k):=fun k=>by
  rw [QI];exact jh
 refine⟨_,zc c0 (i:=0) rfl,biE (fun h1=>?_) fun h1=>?_⟩
 ·have h1:t.kind=1:=dT ((kd 1).symm.trans h1);have e:jo t=if 16<t.text.length then 42 else 0:=by unfold jo;rw [Gr h1]
  rw [e];refine⟨_,zc c0 (i:=1) rfl,biE (fun h2=>?_) fun h2=>?_⟩
  ·have h2:(16:Int)<(t.text.length:Int):=dT h2;exact⟨by rw [Gr (by omega)];rfl,hb0⟩
  ·have h2:¬ (16:Int)<(t.text.length:Int):=dF h2;exact⟨by rw [Gq (by omega)];rfl,hb0⟩
 have h1:¬ t.kind=1:=dF ((kd 1).symm.trans h1);refine biE (fun h2=>?_) fun h2=>?_
 ·have h2:t.kind=2:=dT ((kd 2).symm.trans h2);have e:jo t=if zik t.text then 0 else 41:=by unfold jo;rw [Gq h1,Gr h2]
  rw [e];refine⟨_,zc c0 (i:=1) rfl,cmo (zsm t.text hs _) ?_⟩;rintro e _ ⟨v,rfl,rfl⟩;refine biE (fun h3=>?_) fun h3=>?_
  ·have h3:(!zik t.text)=true:=h3;have h3:zik t.text=false:=by simpa using h3
   exact⟨by rw [h3];rfl,hb0⟩
  ·have h3:(!zik t.text)=false:=h3;have h3:zik t.text=true:=by simpa using h3
   exact⟨by rw [h3];rfl,hb0⟩
 have h2:¬ t.kind=2:=dF ((kd 2).symm.trans h2);refine biE (fun h3=>?_) fun h3=>?_
 ·have h3:t.kind=3:=dT ((kd 3).symm.trans h3);have hne:=ht h3;have hl:0<t.text.length:=List.length_pos_iff.2 hne;have e:jo t=if z7 t.text[0]=6 then 0 else 40:=zrg h3 hl
  rw [e];refine⟨_,zc c0 (i:=1) rfl,0,rfl,hl,t.text[0],zcf hl,cmo (jP _ _) ?_⟩;rintro e _ ⟨rfl,rfl⟩;refine biE (fun h4=>?_) fun h4=>?_
  ·have h4:(!decide ((z7 t.text[0]:Int)=6))=true:=h4;have h4:¬ z7 t.text[0]=6:=by simp at h4;omega
   exact⟨by rw [Gq h4];rfl,hb0⟩
  ·have h4:(!decide ((z7 t.text[0]:Int)=6))=false:=h4;have h4:z7 t.text[0]=6:=by simp at h4;omega
   exact⟨by rw [Gr h4];rfl,hb0⟩
 have h3:¬ t.kind=3:=dF ((kd 3).symm.trans h3);exact⟨by unfold jo;rw [Gq h1,Gq h2,Gq h3];rfl,hb0⟩
theorem zeM {a b c:Wd} {g r:Nat} (h:a.grownBy b (some g)) (k:b.grownBy c (some r)) (hr:a.heap.size<=r):a.grownBy c (some g) :=
 ⟨k.os.trans h.os,k.tape.trans h.tape,k.output.trans h.output,UO h.size k.size,fun i hi hne=>(k.block i (nL hi h.size) (fun e=>by simp only [Qc] at e;omega)).trans (h.block i hi hne)⟩
theorem zpC {x y:Int} {T:Array TypeId} {t:TypeId} {w:Wd} {K:Value->Wd->Prop} (k:K (.int .i64 (if y<x then y else x)) w):SatR ((Builtin.min_ T t [Value.int .i64 x,.int .i64 y].toArray).run PG w) K :=
 SatR.mk (v := .int .i64 (if y<x then y else x)) (w':=w) (by simp [Builtin.min_,Builtin.min2]) k
section
variable {s:List UInt8} {f a:Nat} {op:Bool}
theorem zjw (h:zD s a<s.length) (h2:¬ z7 s[zD s a]=2):j8 s (f+1) a op=some (ziZ s (zD s a) s[zD s a],zaI s (zD s a) s[zD s a],true):=by
 unfold j8;rw [gE h];simp only [Gq h2]
theorem zgc (h:jS s (zD s a)=true):j8 s (f+1) a true=some (⟨4,[],zD s a⟩,min (zD s a+1) s.length,false):=by
 unfold j8;by_cases hp:zD s a<s.length
 ·rw [zci hp] at h;have h:=dT h;rw [gE hp];simp only [Gr h];rfl
 ·rw [JM (by omega)];rfl
theorem zhx (h:s.length<=zD s a):j8 s (f+1) a false=none:=by
 unfold j8;rw [JM h];rfl
theorem zhy (h:zD s a<s.length) (h2:z7 s[zD s a]=2):j8 s (f+1) a false=j8 s f (min (zD s a+1) s.length) false:=by
 conv=>lhs;unfold j8
 rw [gE h];simp only [Gr h2];rfl
theorem zlF:a<=zD s a:=by
 have h1:a<=zbQ s a:=QB _ _;unfold zD
 split
 ·split
  ·omega
  ·exact h1
 ·exact h1
end
def ziQ:Tok:=⟨0,[],0⟩
theorem znY {g a:Nat} {s:List UInt8} {op:Bool} {w:Wd} (h:ScV w g s a op) (ha:a<=s.length) (hs:s.length<=140737488351232) :
  Calls PG 153 #[At0 g] w fun e w'=>∃ t a' op' ok,e = .returned (.tuple #[.agg (ji.enc t).toArray,.bool ok])/\(ok=true->j8 s (s.length+2) a op=some (t,a',op'))/\(ok=false->j8 s (s.length+2) a op=none) /\
   a'<=s.length/\ScV w' g s a' op'/\w.grownBy w' (some g):=by
 refine zI 57 [At0 g] Tryz.func153 ?_;obtain⟨r,hr⟩:=nm (w.heap.size);have hgl:g<r:=by rw [hr];exact hlt h
 obtain⟨W0,hW0⟩:=nm (w.alloc (.cells (ji.enc ziQ).toArray 175));have hb0:Bw w W0:=by rw [hW0];exact (zba _ _)
 have f0:W0.heap[r]?=some (.cells (ji.enc ziQ).toArray 175 (0,0)):=by rw [hW0,hr];exact zz w _
 have h0:ScV W0 g s a op:=h.below hb0;refine⟨Nat×Nat×Bool,fun k=>⟨[(0,At0 g),(2,At0 r)],[]⟩,fun k X=>s.length+1<=k.1+k.2.1/\k.2.1<=s.length/\j8 s (k.1+1) k.2.1 k.2.2=j8 s (s.length+2) a op/\ScV X g s k.2.1 k.2.2/\w.grownBy X (some g)/\X.heap[r]?=some (.cells (ji.enc ziQ).toArray 175 (0,0)),
  fun k=>s.length-k.2.1,(s.length+1,a,op),⟨.cons rfl (.cons (by rw [hr];rfl) .nil),rfl⟩,⟨by omega,ha,rfl,by subst hW0;exact h0,by subst hW0;exact zf hb0,by subst hW0;exact f0⟩,?_⟩
 clear hW0 hb0 f0 h0 W0;rintro⟨f,k,o⟩ X ⟨hf,hk,hn,hX,gX,fX⟩;dsimp only at hf hk hn hX gX fX ⊢;have fillR:∀ (t:Tok) (Y:Wd),Y.heap[r]?=some (.cells (ji.enc ziQ).toArray 175 (0,0))->∀ (K:Wd->Prop),(∀ R,R.heap[r]?=some (.cells (ji.enc t).toArray 175 (0,0))->Y.grownBy R (some r)->K R) ->
   SatR ((storeVar 175 ⟨r,0,none⟩ (.agg (ji.enc t).toArray)).run PG Y) fun _ w'=>K w':=fun t Y fY K q =>
  zJ (v := .agg (ji.enc t).toArray) zjD fY rfl rfl rfl (q _ (zA fY) (ju Y _ _))
 have keepR:∀ {A B:Wd},A.grownBy B (some g)->A.heap[r]?=some (.cells (ji.enc ziQ).toArray 175 (0,0))->B.heap[r]?=some (.cells (ji.enc ziQ).toArray 175 (0,0)):=fun hg hA=>(hg.block _ (hlt hA) (fun e=>by simp only [Qc] at e;omega)).trans hA;have keepS:∀ {A B:Wd} {a:Nat} {o:Bool} {q:Nat},A.grownBy B (some q)->g≠q->ScV A g s a o->ScV B g s a o:=fun hg hq hA=>(hg.block _ (hlt hA) (fun e=>hq (by simpa using e))).trans hA;refine cmo (zq3 hX hk hs) ?_;rintro e Y ⟨⟨v,rfl⟩,hY,gY⟩;have hp:=zlE (s:=s) hk;have hpk:=zlF (s:=s) (a:=k);have fY:=keepR gY fX;have gwY:=zd gX gY;refine cmo (zl6 hY.cells (hlt hY)) ?_;rintro e Z ⟨rfl,hbZ⟩;have hZ:=hY.below hbZ;have gwZ:=zfw gwY hbZ;have fZ:=zb hbZ fY;refine biE (fun hc=>?_) fun hc=>?_
 ·have hc:jS s (zD s k)=false:=by
   have h1:(!jS s (zD s k))=true:=hc;simpa using h1
  have hl:zD s k<s.length:=by
   by_cases h1:zD s k<s.length
   ·exact h1
   ·rw [zgI (by omega)] at hc;cases hc
  rw [zci hl] at hc;have hc:=dF hc;rw [zjw hl hc] at hn;refine zjj hZ true fun U hU gU sU=>?_;have gwU:=zd gwZ gU;have fU:=keepR gU fZ;refine cmo (zpm hU hl hs) ?_;rintro e V ⟨rfl,hV,gV⟩;have gwV:=zd gwU gV;exact fillR _ V (keepR gV fU) _ fun R fR gR=>⟨_,rfl,za fR,_,_,_,true,rfl,fun _=>hn.symm,fun h=>(by cases h),(zkV hl _).2,keepS gR (by omega) hV,zeM gwV gR (by omega)⟩
 have hc:jS s (zD s k)=true:=by
  have h1:(!jS s (zD s k))=false:=hc;simpa using h1
 refine⟨_,zc hZ.cells (i:=1) rfl,ji.enc ⟨4,[],zD s k⟩,rfl,zn (X:=Z) (v := .agg (ji.enc ⟨4,[],zD s k⟩).toArray) zjD rfl rfl rfl fun U hbU fU4 sU=>?_⟩;have fU4:U.heap[Z.heap.size]?=some (.cells (ji.enc ⟨4,[],zD s k⟩).toArray 175 (0,0)):=fU4;have hU:=hZ.below hbU;have gwU:=zfw gwZ hbU;have fU:=zb hbU fZ;have hzs:r<Z.heap.size:=hlt fZ;refine cmo (zii hU.cells) ?_;rintro e V ⟨rfl,hbV⟩;have hV:=hU.below hbV;have gwV:=zfw gwU hbV;have fV:=zb hbV fU;have fV4:=zb hbV fU4;refine DrawE.ord [17] [0,1,2,3,4,5,6,7,8,9,10,11,12,13,14,15,16,17] (by kernel_rfl) ?_;have hVd:ScV V.drew g s (zD s k) o:=hV;refine⟨_,zc hVd.cells (i:=1) rfl,(zD s k+1:Nat),(ze (by omega)).trans (by omega),_,zc hVd.cells (i:=0) rfl,zpC ⟨Gd _ _,?_⟩⟩;have hmin:(if ((s.length:Nat):Int)<((zD s k+1:Nat):Int) then ((s.length:Nat):Int) else ((zD s k+1:Nat):Int))=((min (zD s k+1) s.length:Nat):Int):=by
  split <;> omega
 have e5:Value.int .i64 (if (((bs s).size:Nat):Int)<((zD s k+1:Nat):Int) then (((bs s).size:Nat):Int) else ((zD s k+1:Nat):Int))=i64 (min (zD s k+1) s.length:Nat):=by
  rw [show (bs s).size=s.length from rfl,hmin];rfl
 rw [e5];refine zeC hVd (min (zD s k+1) s.length) fun R hR gR sR=>?_;have gwR:=zd (zd gwV (zf (Gd _ V).drew)) gR;have fR:=keepR gR (hdr fV);have fR4:R.heap[Z.heap.size]?=some (.cells (ji.enc ⟨4,[],zD s k⟩).toArray 175 (0,0)):=(gR.block _ (hlt (hdr fV4)) (fun e=>by simp only [Qc] at e;omega)).trans (hdr fV4);refine⟨_,zc (za hR) (i:=2) rfl,biE (fun ho=>?_) fun ho=>?_⟩
 ·have ho:o=true:=ho;subst ho;rw [zgc hc] at hn;refine zjj hR false fun T hT gT sT=>?_;have gwT:=zd gwR gT;have fT:=keepR gT fR;have fT4:T.heap[Z.heap.size]?=some (.cells (ji.enc ⟨4,[],zD s k⟩).toArray 175 (0,0)):=(gT.block _ (hlt fR4) (fun e=>by simp only [Qc] at e;omega)).trans fR4;exact⟨_,rfl,za fT4,hlt fT4,fillR ⟨4,[],zD s k⟩ T fT _ fun L fL gL=>⟨_,rfl,za fL,_,_,_,true,rfl,fun _=>hn.symm,fun h=>(by cases h),QE _ _,keepS gL (by omega) hT,zeM gwT gL (by omega)⟩⟩
 ·have ho:o=false:=ho;subst ho;refine biE (fun h5=>?_) fun h5=>?_
  ·have h5:s.length<=zD s k:=dT h5;rw [zhx h5] at hn;exact⟨ji.enc ziQ,rfl,fillR ziQ R fR _ fun L fL gL=>⟨_,rfl,za fL,_,_,_,false,rfl,fun h=>(by cases h),fun _=>hn.symm,QE _ _,keepS gL (by omega) hR,zeM gwR gL (by omega)⟩⟩
  ·have h5:¬ s.length<=zD s k:=dF h5;have hl:zD s k<s.length:=by omega
   have h2:z7 s[zD s k]=2:=by rw [zci hl] at hc;exact dT hc
   rw [zhy hl h2] at hn;have hmn:min (zD s k+1) s.length=zD s k+1:=Uc (by omega);obtain⟨f',rfl⟩:∃ f',f=f'+1:=⟨f-1,by omega⟩;exact⟨(f',min (zD s k+1) s.length,false),(cvE rfl rfl),⟨by show _<=f'+min _ _;omega,QE _ _,hn,hR,gwR,fR⟩,by show s.length-min _ _<s.length-k;omega⟩
def bOp (op:Bool):Nat:=if op then 1 else 0
theorem zkI {s:List UInt8} {f a a':Nat} {op op':Bool} {t:Tok} (h:j8 s (f+1) a op=some (t,a',op')) :
  (∃ hl:zD s a<s.length,t=ziZ s (zD s a) s[zD s a]/\a'=zaI s (zD s a) s[zD s a]/\op'=true)\/(op=true/\t=⟨4,[],zD s a⟩/\a'=min (zD s a+1) s.length/\op'=false) \/
   (op=false/\zD s a<s.length/\j8 s f (min (zD s a+1) s.length) false=some (t,a',op')):=by
 by_cases hp:zD s a<s.length
 ·by_cases h2:z7 s[zD s a]=2
  ·cases op with
   | true =>
    rw [zgc (by rw [zci hp];exact Uu h2)] at h;simp only [Qc,UH] at h;exact .inr (.inl ⟨rfl,h.1.symm,h.2.1.symm,h.2.2.symm⟩)
   | false =>
    rw [zhy hp h2] at h;exact .inr (.inr ⟨rfl,hp,h⟩)
  ·rw [zjw hp h2] at h;simp only [Qc,UH] at h;exact .inl ⟨hp,h.1.symm,h.2.1.symm,h.2.2.symm⟩
 ·cases op with
  | true =>
   rw [zgc (zgI (by omega))] at h;simp only [Qc,UH] at h;exact .inr (.inl ⟨rfl,h.1.symm,h.2.1.symm,h.2.2.symm⟩)
  | false=>rw [zhx (by omega)] at h;cases h
theorem zcN {s:List UInt8} {t:Tok} {a':Nat} {op':Bool}:∀ {f a:Nat} {op:Bool},j8 s f a op=some (t,a',op')->a<=s.length ->
  a'<=s.length/\2*(s.length-a')+bOp op'<2*(s.length-a)+bOp op/\(t.kind=3->t.text≠[])/\t.text.length<=s.length
 | 0,_,_,h,_=>by cases h
 | f+1,a,op,h,ha=>by
  have hpa:=zlF (s:=s) (a:=a);have hpl:=zlE ha;rcases zkI h with ⟨hl,rfl,rfl,rfl⟩ | ⟨rfl,rfl,rfl,rfl⟩ | ⟨rfl,hl,h'⟩
  ·obtain⟨e1,e2⟩:=zkV hl s[zD s a];refine⟨e2,?_,fun _=>?_,?_⟩
   ·have:bOp true=1:=rfl;omega
   ·intro he;have h1:((s.drop (zD s a)).take (zaI s (zD s a) s[zD s a]-zD s a)).length=0:=by
     have:(ziZ s (zD s a) s[zD s a]).text=[]:=he;exact Gl List.length this
    rw [Qx,Qw] at h1;omega
   ·show ((s.drop (zD s a)).take _).length<=_;rw [Qx,Qw];omega
  ·refine⟨QE _ _,?_,fun h=>(by cases h),Gb _⟩;have h1:bOp true=1:=rfl;have h0:bOp false=0:=rfl;omega
  ·obtain⟨h1,h2,h3⟩:=zcN h' (QE _ _);refine⟨h1,?_,h3⟩;omega
theorem zha {s:List UInt8} {f a a':Nat} {op op':Bool} {t:Tok} (h:j8 s (s.length+2) a op=some (t,a',op')):zb1 s (f+1) a op=t::zb1 s f a' op':=by
 show (match j8 s (s.length+2) a op with
  | some (t,a',op')=>t::zb1 s f a' op'
  | none=>[])=_
 rw [h]
theorem zg9 {s:List UInt8} {f a:Nat} {op:Bool} (h:j8 s (s.length+2) a op=none):zb1 s (f+1) a op=[]:=by
 show (match j8 s (s.length+2) a op with
  | some (t,a',op')=>t::zb1 s f a' op'
  | none=>[])=_
 rw [h]
def StT (pre:List Tok) (vs:List Value) (_:Wd):Prop:=∃ t,pre.getLast?=some t/\vs=[.agg (ji.enc t).toArray,i64 (jo t)]
theorem znq {g:Nat} {w:Wd}:Calls PG 117 #[At0 g] w fun e w'=>e = .returned (.func (.func 152) #[] #[.pointer (some ⟨w.heap.size,0,none⟩)])/\w'=w.alloc (.cells #[At0 g] 228):=by
 refine zI 4 [At0 g] Tryz.func117 ?_;exact⟨rfl,rfl⟩
theorem zme {g bx:Nat} {s:List UInt8} {W0:Wd} (h:ScV W0 g s 0 false) (hbx:W0.heap[bx]?=some (.cells #[At0 g] 228 (0,0))) (hne:bx≠g) (hs:s.length<=140737488351232) :
  zqK PG 152 [At0 bx] (qQ s) W0 (fun k=>k=bx) (fun k=>k=g) StT:=by
 intro yl Fp J Jx W hsz hrd hrf hJ hJx hy h0;have hbW:W.heap[bx]?=some (.cells #[At0 g] 228 (0,0)):=(hrd bx (.inl rfl)).trans hbx;have hgW:ScV W g s 0 false:=(hrd g (.inr rfl)).trans h;have hbs:bx<W0.heap.size:=hlt hbx;have hgs:g<W0.heap.size:=hlt h;refine zI 23 [.func (.yield yl) #[] #[],At0 bx] Tryz.func152 ?_
 let Inv:List Tok->Wd->Prop:=fun pre X=>J pre X/\W.heap.size<=X.heap.size/\X.heap[bx]?=some (.cells #[At0 g] 228 (0,0))/\¬ Fp X bx
 have stepG:∀ pre X Y,Inv pre X->X.grownBy Y (some g)->Inv pre Y/\∀ k,Fp Y k->Fp X k:=fun pre X Y ⟨h1,h2,h3,h4⟩ hg=>by
  have hst:StepO W.heap.size (fun k=>k=g) Fp X Y:=⟨hg.os,hg.tape,hg.output,hg.size,fun k hk hf=>hg.block k hk (fun e=>by
   have e:g=k:=(by simpa using e:k=g).symm;rcases hf with hf | hf
   ·exact hf.2 e.symm
   ·exact (hJ.lt _ _ _ h1 hf).2 e.symm)⟩
  obtain⟨j1,j2⟩:=hJ.step _ _ _ h1 hst;refine⟨⟨j1,UO h2 hg.size,(hg.block _ (hlt h3) (fun e=>hne (by simpa using e))).trans h3,fun hf=>h4 (j2 _ hf)⟩,j2⟩
 have stepB:∀ pre X Y,Inv pre X->Bw X Y->Inv pre Y/\∀ k,Fp Y k->Fp X k:=fun pre X Y hI hb=>stepG pre X Y hI (zf hb);have I0:Inv [] W:=⟨h0,UY _,hbW,hrf bx rfl⟩;refine⟨_,zc (za hbW) (i:=0) rfl,cmo (znY hgW (Gb _) hs) ?_⟩;rintro e Y ⟨t,a,op,ok,rfl,hok,hno,ha,hY,gY⟩;obtain⟨I1,_⟩:=stepG [] W Y I0 gY;refine zn (X:=Y) (v := .agg (ji.enc t).toArray) zjD rfl rfl rfl fun Z hbZ fZ sZ=>?_;have fZ:Z.heap[Y.heap.size]?=some (.cells (ji.enc t).toArray 175 (0,0)):=fZ;obtain⟨I2,q2⟩:=stepB [] Y Z I1 hbZ;refine⟨List Tok×Nat×Nat×Bool×Bool×Tok×Nat,fun q=>⟨[(0,.func (.yield yl) #[] #[]),(1,At0 bx),(3,.pointer (some ⟨q.2.2.2.2.2.2,0,none⟩)),(4,.bool q.2.2.2.2.1)],[]⟩,
  fun q X=>Inv q.1 X/\(q.2.2.2.2.1=true->qQ s=q.1++q.2.2.2.2.2.1::zb1 s q.2.1 q.2.2.1 q.2.2.2.1)/\(q.2.2.2.2.1=false->qQ s=q.1)/\(q.2.2.2.2.1=true->2*(s.length-q.2.2.1)+bOp q.2.2.2.1<q.2.1)/\q.2.2.1<=s.length/\ScV X g s q.2.2.1 q.2.2.2.1 /\
   X.heap[q.2.2.2.2.2.2]?=some (.cells (ji.enc q.2.2.2.2.2.1).toArray 175 (0,0))/\W.heap.size<=q.2.2.2.2.2.2/\¬ Fp X q.2.2.2.2.2.2/\(q.2.2.2.2.1=true->(q.2.2.2.2.2.1.kind=3->q.2.2.2.2.2.1.text≠[])/\q.2.2.2.2.2.1.text.length<=s.length),
  fun q=>q.2.1,([],2*s.length+2,a,op,ok,t,Y.heap.size),(cvE rfl rfl),⟨I2,?_,?_,?_,ha,hY.below hbZ,fZ,gY.size,?_,?_⟩,?_⟩
 ·intro h1;exact zha (hok h1)
 ·intro h1;exact zg9 (hno h1)
 ·intro h3;have:=(zcN (hok h3) (Gb _)).2.1;have h0:bOp false=0:=rfl;dsimp only;omega
 ·intro hf;have h9:Y.heap.size<Y.heap.size:=(hJ.lt _ _ _ I1.1 (q2 _ hf)).1;omega
 ·intro h1;exact (zcN (hok h1) (Gb _)).2.2
 clear I2 q2 fZ hbZ sZ I1 gY hY hok hno ha;rintro⟨pre,f,a,op,ok,t,tb⟩ X ⟨hI,h1,h2,hf,ha,hX,ft,htb,hft,hgd⟩;dsimp only at hI h1 h2 hf ha hX ft htb hft hgd ⊢;refine biE (fun hok=>?_) fun hok=>?_
 ·have hok:ok=true:=hok;subst hok;have h1:=h1 rfl;have hf:=hf rfl;obtain⟨g1,g2⟩:=hgd rfl;have hpre:(pre++[t]) <+: qQ s:=⟨zb1 s f a op,by rw [h1];simp⟩;refine DrawE.ord [4] [0,1,2,3,4,5] (by kernel_rfl) ⟨_,rfl,za (hdr ft),hlt (hdr ft),_,rfl,za (hdr ft),hlt (hdr ft),cmo (zpS t g1 (by omega) X.drew) ?_⟩;rintro e U ⟨rfl,hbU⟩;refine⟨hbU,?_⟩;have hXU:Bw X U:=(Gd _ X).drew.trans hbU;obtain⟨IU,qU⟩:=stepB pre X U hI hXU;have fU:=zb hXU ft;have hU:=hX.below hXU;have hftU:¬ Fp U tb:=fun h=>hft (qU _ h);refine YieldR.mono (hy pre t _ U IU.1 ⟨t,by simp,rfl⟩ hpre) ?_;rintro v V (⟨rfl,hJV,hKV⟩ | ⟨rfl,hJV⟩)
  ·refine Gi (fun h=>by cases h) (fun _=>?_);have IU':=IU;obtain⟨_,iu2,iu3,iu4⟩:=IU';have hUs:=hKV.size;have hgF:¬ Fp U g:=fun h=>(hJ.lt _ _ _ IU.1 h).2 rfl;have hbV:V.heap[bx]?=_:=(hKV.same bx (hlt iu3) iu4).trans iu3;have hV:ScV V g s a op:=(hKV.same g (hlt hU) hgF).trans hU;have fV:=(hKV.same tb (hlt fU) hftU).trans fU;have nF:∀ k,k<U.heap.size->¬ Fp U k->¬ Fp V k:=fun k hk h1 h2=>by
    rcases hKV.fp k h2 with h3 | h3
    ·exact h1 h3
    ·omega
   have IV:Inv (pre++[t]) V:=⟨hJV,by omega,hbV,nF bx (hlt iu3) iu4⟩;refine⟨_,rfl,za fV,hlt fV,zn (X:=V) (v := .agg (ji.enc t).toArray) zjD rfl rfl rfl fun R hbR fR sR=>?_⟩;have fR:R.heap[V.heap.size]?=some (.cells (ji.enc t).toArray 175 (0,0)):=fR;obtain⟨IR,qR⟩:=stepB (pre++[t]) V R IV hbR;have hnR:¬ Fp R V.heap.size:=fun h=>by have:=(hJ.lt _ _ _ IV.1 (qR _ h)).1;omega
   refine⟨_,zc (za IR.2.2.1) (i:=0) rfl,cmo (znY (hV.below hbR) ha hs) ?_⟩;rintro e L ⟨t',a',op',ok',rfl,hok',hno',ha',hL,gL⟩;obtain⟨IL,qL⟩:=stepG (pre++[t]) R L IR gL;have hVs:W.heap.size<=V.heap.size:=IV.2.1;have hgV:g≠V.heap.size:=by omega
   have hbV2:bx≠V.heap.size:=by omega
   have fL:L.heap[V.heap.size]?=some (.cells (ji.enc t).toArray 175 (0,0)):=(gL.block _ (hlt fR) (fun e=>hgV (by simpa using e.symm))).trans fR;refine zJ (v := .agg (ji.enc t').toArray) zjD fL rfl rfl rfl ?_;obtain⟨f',rfl⟩:∃ f',f=f'+1:=⟨f-1,by omega⟩;have hnL:¬ Fp L V.heap.size:=fun h=>hnR (qL _ h);have hst:StepO W.heap.size (fun k=>k=g) Fp L (L.setRow V.heap.size (Value.agg (ji.enc t').toArray).cells):=⟨rfl,rfl,rfl,by simp,fun k hk hf=>zr (fun e=>by
    subst e;rcases hf with hf | hf
    ·omega
    ·exact hnL hf)⟩
   obtain⟨j1,j2⟩:=hJ.step _ _ _ IL.1 hst;refine⟨(pre++[t],f',a',op',ok',t',V.heap.size),(cvE rfl rfl),⟨⟨j1,by simp;exact IL.2.1,(zr hbV2).trans IL.2.2.1,fun h=>IL.2.2.2 (j2 _ h)⟩,?_,?_,?_,ha',(zr hgV).trans hL,zA fL,hVs,fun h=>hnL (j2 _ h),?_⟩,by show f'<f'+1;omega⟩
   ·intro h3;rw [h1];show pre++t::zb1 s (f'+1) a op=(pre++[t])++_;rw [zha (hok' h3)];simp
   ·intro h3;rw [h1];show pre++t::zb1 s (f'+1) a op=pre++[t];rw [zg9 (hno' h3)]
   ·intro h3;have:=(zcN (hok' h3) ha).2.1;dsimp only;omega
   ·intro h3;exact (zcN (hok' h3) ha).2.2
  ·exact Gi (fun _=>Gi ⟨_,rfl⟩ (.inr ⟨_,hpre,hJV⟩)) (fun h=>by cases h)
 ·have hok:ok=false:=hok;subst hok;have h2:=h2 rfl;exact⟨⟨_,rfl⟩,.inl (by rw [h2];exact hI.1)⟩
def zcP (s:List UInt8):Bool:=decide (s.length<=16384)&&(qQ s).all (fun t=>decide (jo t=0))
theorem ziY {s:List UInt8}:∀ {f a:Nat} {op:Bool},(zb1 s f a op).length<=f
 | 0,_,_=>UY _
 | f+1,a,op=>by
  unfold zb1
  split
  ·exact Nat.succ_le_succ ziY
  ·exact Gb _
def FpX (L:Nat) (X:Wd) (k:Nat):Prop:=k=L\/k=L+1\/k=L+2\/∃ a n cap,X.heap[L]?=some (.cells #[.slice (some a) n cap] 170 (0,0))/\k=a.block
structure ResX (L:Nat) (X:Wd) (v:Value) (pl er:Int):Prop where
 l:X.heap[L]?=some (.cells #[v] 170 (0,0))
 p:X.heap[L+1]?=some (.cells #[i64 pl] 3 (0,0))
 e:X.heap[L+2]?=some (.cells #[i64 er] 34 (0,0))
def JX (w:Wd) (L B:Nat) (pre:List Tok) (X:Wd):Prop:=Bw w X/\(∀ t∈pre,jo t=0)/\∃ p cap,ResX L X (.slice p pre.length cap) 0 0/\OwnS ji 175 B X p cap pre
def JxX (w:Wd) (L:Nat) (pre:List Tok) (X:Wd):Prop:=Bw w X/\(∃ t∈pre,jo t≠0)/\∃ pl er,ResX L X (.slice none 0 0) pl er/\er≠0
theorem FpX.row {L:Nat} {X:Wd} {p:OA} {n cap:Nat} {pl er:Int} (h:ResX L X (.slice p n cap) pl er) {k:Nat} (hf:FpX L X k):k=L\/k=L+1\/k=L+2\/∃ a,p=some a/\k=a.block:=by
 rcases hf with hf | hf | hf | ⟨a,n',cap',h1,h2⟩
 ·exact .inl hf
 ·exact .inr (.inl hf)
 ·exact .inr (.inr (.inl hf))
 ·have:=h.l;rw [h1] at this;simp at this;exact .inr (.inr (.inr ⟨a,this.1.symm,h2⟩))
theorem ResX.same {L:Nat} {A B:Wd} {v:Value} {pl er:Int} (h:ResX L A v pl er) (hs:∀ k,k=L\/k=L+1\/k=L+2->B.heap[k]?=A.heap[k]?):ResX L B v pl er :=
 ⟨(hs L (.inl rfl)).trans h.l,(hs _ (.inr (.inl rfl))).trans h.p,(hs _ (.inr (.inr rfl))).trans h.e⟩
theorem JX.iter {w:Wd} {L B n0 g:Nat} (hw:w.heap.size<=L) (hL:L+2<g) (hg:g<n0) (hB:B=n0):IterJO n0 (fun k=>k=g) (FpX L) (JX w L B):=by
 subst hB;refine⟨fun pre A C ⟨hb,hf,p,cap,hr,ho⟩ hs=>?_,fun pre A k ⟨hb,hf,p,cap,hr,ho⟩ hk=>?_⟩
 ·have hr':ResX L C (.slice p pre.length cap) 0 0:=hr.same fun k hk=>hs.same k (by rcases hk with rfl | rfl | rfl;exact hlt hr.l;exact hlt hr.p;exact hlt hr.e) (.inl ⟨by omega,by omega⟩);have zec:∀ a,p=some a->C.heap[a.block]?=A.heap[a.block]?:=fun a ha=>by
   rcases ho.inv with ⟨rfl,_⟩ | ⟨g',cur,rfl,_,hg',_⟩
   ·cases ha
   ·cases ha
    exact hs.same _ (hlt hg') (.inr (.inr (.inr (.inr ⟨_,_,_,hr.l,rfl⟩))))
  refine⟨⟨⟨hs.os.trans hb.os,hs.tape.trans hb.tape,hs.output.trans hb.output,UO hb.size hs.size,fun k hk=>(hs.same k (nL hk hb.size) (.inl ⟨by omega,by omega⟩)).trans (hb.block k hk)⟩,hf,p,cap,hr',ho.same zec⟩,fun k hk=>?_⟩;rcases FpX.row hr' hk with rfl | rfl | rfl | ⟨a,rfl,rfl⟩
  ·exact .inl rfl
  ·exact .inr (.inl rfl)
  ·exact .inr (.inr (.inl rfl))
  ·exact .inr (.inr (.inr ⟨_,_,_,hr.l,rfl⟩))
 ·rcases FpX.row hr hk with rfl | rfl | rfl | ⟨a,rfl,rfl⟩
  ·exact⟨hlt hr.l,by omega⟩
  ·exact⟨hlt hr.p,by omega⟩
  ·exact⟨hlt hr.e,by omega⟩
  ·rcases ho.inv with ⟨h,_⟩ | ⟨g',cur,h,hB,hg',_⟩
   ·cases h
   ·cases h
    exact⟨hlt hg',by show ¬ g'=g;omega⟩
theorem JxX.iter {w:Wd} {L n0 g:Nat} (hw:w.heap.size<=L) (hL:L+2<g) (hg:g<n0):IterJO n0 (fun k=>k=g) (FpX L) (JxX w L):=by
 refine⟨fun pre A C ⟨hb,hf,pl,er,hr,he⟩ hs=>?_,fun pre A k ⟨hb,hf,pl,er,hr,he⟩ hk=>?_⟩
 ·have hr':ResX L C (.slice none 0 0) pl er:=hr.same fun k hk=>hs.same k (by rcases hk with rfl | rfl | rfl;exact hlt hr.l;exact hlt hr.p;exact hlt hr.e) (.inl ⟨by omega,by omega⟩);refine⟨⟨⟨hs.os.trans hb.os,hs.tape.trans hb.tape,hs.output.trans hb.output,UO hb.size hs.size,fun k hk=>(hs.same k (nL hk hb.size) (.inl ⟨by omega,by omega⟩)).trans (hb.block k hk)⟩,hf,pl,er,hr',he⟩,fun k hk=>?_⟩;rcases FpX.row hr' hk with rfl | rfl | rfl | ⟨a,h,_⟩
  ·exact .inl rfl
  ·exact .inr (.inl rfl)
  ·exact .inr (.inr (.inl rfl))
  ·cases h
 ·rcases FpX.row hr hk with rfl | rfl | rfl | ⟨a,h,_⟩
  ·exact⟨hlt hr.l,by omega⟩
  ·exact⟨hlt hr.p,by omega⟩
  ·exact⟨hlt hr.e,by omega⟩
  ·cases h
abbrev nl0:Value := .slice none 0 0
theorem zso (s:List UInt8) (hs:s.length<=140737488351232) (w:Wd) :
  Calls PG 88 #[qk s] w fun e w'=>∃ p cap n pl er,e = .returned (.tuple #[.slice p n cap,i64 pl,i64 er])/\(zcP s=true->er=0/\n=(qQ s).length/\SlR ji w' p (qQ s))/\(zcP s=false->er≠0)/\Bw w w':=by
 refine qX 27 [qk s] (.c .p (.c .p .p)) Tryz.func88 ?_;obtain⟨L,hL⟩:=nm (w.heap.size);have z1:(w.alloc (.cells #[nl0] 170)).heap.size=L+1:=by rw [wz,hL]
 have z2:((w.alloc (.cells #[nl0] 170)).alloc (.cells #[i64 0] 3)).heap.size=L+2:=by rw [wz,z1]
 obtain⟨W0,hW0⟩:=nm (((w.alloc (.cells #[nl0] 170)).alloc (.cells #[i64 0] 3)).alloc (.cells #[i64 0] 34));have hb0:Bw w W0:=by rw [hW0];exact (((zba _ _)).alloc (by simp) _).alloc (by rw [z2];omega) _
 have hs0:W0.heap.size=L+3:=by rw [hW0,wz,z2]
 have r0:ResX L W0 nl0 0 0:=by
  rw [hW0];refine⟨?_,?_,?_⟩
  ·rw [hL];exact qG _ (qG _ (zz w _))
  ·rw [<- z1];exact qG _ (zz _ _)
  ·rw [<- z2];exact zz _ _
 have p1:some (Value.pointer (some ⟨(w.alloc (.cells #[nl0] 170)).heap.size,0,none⟩))=some (At0 (L+1)):=by rw [z1]
 have p2:some (Value.pointer (some ⟨((w.alloc (.cells #[nl0] 170)).alloc (.cells #[i64 0] 3)).heap.size,0,none⟩))=some (At0 (L+2)):=by rw [z2]
 have put3:∀ (X:Wd) (v0:Value) (a0 b0:Int),ResX L X v0 a0 b0->∀ (pl er:Int) (K:Wd->Prop),(∀ Y,ResX L Y (.slice none 0 0) pl er->Below w.heap.size X Y->X.heap.size=Y.heap.size->(∀ k,k≠L->k≠L+1->k≠L+2->Y.heap[k]?=X.heap[k]?)->K Y) ->
   SatR ((storeVar 170 ⟨L,0,none⟩ (.slice none 0 0)).run PG X) fun _ Y1=>SatR ((storeVar 3 ⟨L+1,0,none⟩ (i64 pl)).run PG Y1) fun _ Y2=>SatR ((storeVar 34 ⟨L+2,0,none⟩ (i64 er)).run PG Y2) fun _ Y3=>K Y3:=by
  intro X v0 a0 b0 hr pl er K k;refine zJ (v := .slice none 0 0) zpH hr.l rfl rfl rfl ?_;have q1:(X.setRow L (Value.slice none 0 0).cells).heap[L+1]?=some (.cells #[i64 a0] 3 (0,0)):=(zr (by omega)).trans hr.p;refine zJ (v:=i64 pl) k3 q1 rfl rfl rfl ?_;have q2:((X.setRow L (Value.slice none 0 0).cells).setRow (L+1) (i64 pl).cells).heap[L+2]?=some (.cells #[i64 b0] 34 (0,0)):=(zr (by omega)).trans ((zr (by omega)).trans hr.e);refine zJ (v:=i64 er) k34 q2 rfl rfl rfl (k _ ⟨?_,?_,zA q2⟩ ?_ (by simp) ?_)
  ·exact (zr (by omega)).trans ((zr (by omega)).trans (zA hr.l))
  ·exact (zr (by omega)).trans (zA q1)
  ·exact zC (zC (zC (Gd _ X) (by omega) _) (by omega) _) (by omega) _
  ·intro k h1 h2 h3;exact (zr h3).trans ((zr h2).trans (zr h1))
 refine⟨Unit,fun _=>⟨[(0,qk s),(2,At0 L),(3,At0 (L+1)),(4,At0 (L+2))],[]⟩,fun _ X=>W0=X,?_,?_⟩
 ·exact⟨(),⟨.cons rfl (.cons (by rw [hL];rfl) (.cons p1 (.cons p2 .nil))),rfl⟩,hW0⟩
 clear hW0 p1 p2 z1 z2;rintro _ _ rfl;refine⟨Unit,fun _=>⟨[(0,qk s),(2,At0 L),(3,At0 (L+1)),(4,At0 (L+2))],[]⟩,fun _ X=>s.length<=16384/\W0=X,?_,?_⟩
 ·refine biE (fun h=>?_) fun h=>?_
  ·have h:(16384:Int)<(s.length:Int):=dT h;have hno:zcP s=false:=by unfold zcP;rw [Uj (by omega)];rfl
   exact put3 W0 _ _ _ r0 0 3 _ fun Y hY hb hsz _=>⟨_,zc (za hY.l) (i:=0) rfl,_,zc (za hY.p) (i:=0) rfl,_,zc (za hY.e) (i:=0) rfl,none,0,0,0,3,rfl,fun h=>(by rw [hno] at h;cases h),fun _=>by decide,hb0.trans hb⟩
  ·have h:¬ (16384:Int)<(s.length:Int):=dF h;exact⟨(),(cvE rfl rfl),by omega,rfl⟩
 rintro _ _ ⟨hln,rfl⟩;refine⟨[qk s,i64 0],rfl,[qk s,i64 0,.bool false],rfl,zn (X:=W0) (v := .agg #[qk s,i64 0,.bool false]) zsD rfl rfl rfl fun V hbV fV sV=>?_⟩;have hV:ScV V W0.heap.size s 0 false:=fV;refine cmo znq ?_;rintro e W1 ⟨rfl,hW1⟩;have sW1:W1.heap.size=W0.heap.size+2:=by rw [hW1,wz,sV]
 have hb1:Bw V W1:=by rw [hW1];exact (zba _ _)
 have hbx:W1.heap[W0.heap.size+1]?=some (.cells #[.pointer (some ⟨W0.heap.size,0,none⟩)] 228 (0,0)):=by
  rw [hW1,<- sV];exact zz V _
 have hg1:ScV W1 W0.heap.size s 0 false:=hV.below hb1;have hb01:Bw W0 W1:=zst hbV hb1;have hbw1:Bw w W1:=zst hb0 hb01;have r1:ResX L W1 nl0 0 0:=r0.same fun k hk=>hb01.block k (by omega);have hlen:(qQ s).length<=40000:=UO ziY (by omega);have hok1:(∀ t∈qQ s,jo t=0)->zcP s=true:=fun h=>by
  unfold zcP;rw [Uu hln,UA,Qm];exact fun t ht=>Uu (h t ht)
 have hok2:(∃ t∈qQ s,jo t≠0)->zcP s=false:=fun ⟨t,ht,hf⟩=>by
  unfold zcP;rw [Uu hln,UA,KQ];exact⟨t,ht,by simpa using hf⟩
 rw [sV];refine zqX (zbe _) rfl (lb := #[.pointer (some ⟨W0.heap.size+1,0,none⟩)]) rfl rfl (zme hg1 hbx (by omega) hs) (UY _) (fun k hk=>⟨by rcases hk with rfl | rfl <;> omega,rfl⟩) (fun pre vs W ⟨t,_,h⟩=>by rw [h];rfl) (by decide)
  (FpX L) (JX w L W1.heap.size) (fun ex pre X=>ex = .ret/\JxX w L pre X) ?_ (JX.iter (by omega) (by omega) (by omega) rfl) (fun ex=>?_) ?_ ?_ ?_ ?_
 ·intro k hk hf;rcases FpX.row r1 hf with h | h | h | ⟨a,h,_⟩
  ·omega
  ·omega
  ·omega
  ·cases h
 ·have hJ:=JxX.iter (w:=w) (L:=L) (n0:=W1.heap.size) (g:=W0.heap.size) (by omega) (by omega) (by omega);exact⟨fun pre A C ⟨h1,h2⟩ hs=>⟨⟨h1,(hJ.step _ _ _ h2 hs).1⟩,(hJ.step _ _ _ h2 hs).2⟩,fun pre A k ⟨_,h2⟩ hf=>hJ.lt _ _ _ h2 hf⟩
 ·exact⟨hbw1,fun t ht=>(by cases ht),none,0,r1,.nil⟩
 ·intro yl pre x vs W hyl hpre hJ hst hfy hly;obtain⟨t,ht,rfl⟩:=hst;have ht:t=x:=by simpa using ht.symm
  subst ht;have hIt:=JX.iter (w:=w) (L:=L) (B:=W1.heap.size) (n0:=W1.heap.size) (g:=W0.heap.size) (by omega) (by omega) (by omega) rfl;refine zn (X:=W) (v := .agg (ji.enc t).toArray) zjD rfl rfl rfl fun R hbR fR sR=>?_;have fR:R.heap[W.heap.size]?=some (.cells (ji.enc t).toArray 175 (0,0)):=fR;obtain⟨jR,qR⟩:=hIt.step pre W R hJ (Step.of_below hbR).o;refine⟨rfl,Keeps.of_below hbR (fun k hk => .inl (qR k hk)),jR,?_⟩;rintro o W2 hW2 ⟨hbW,hfl,p,cap,hr,ho⟩ hF2;have f2:W2.heap[W.heap.size]?=some (.cells (ji.enc t).toArray 175 (0,0)):=by rw [hW2,zg (by omega)];exact fR
  have s2:W2.heap.size=R.heap.size:=by rw [hW2];simp [World.putObj]
  have hLW:W1.heap.size<=W.heap.size:=by
   have:=hlt hr.l;obtain⟨hbW',_⟩:=hJ;omega
  refine biE (fun h=>?_) fun h=>?_
  ·have h:jo t≠0:=by
    have h1:(!decide (jo t=0))=true:=h;simpa using h1
   have hrd:ResX L W2.drew (.slice p pre.length cap) 0 0:=⟨hr.l,hr.p,hr.e⟩;have hd:W2.drew.heap.size=W2.heap.size:=rfl;have fin:∀ Y,ResX L Y (.slice none 0 0) t.pos (jo t)->Below w.heap.size W2.drew Y->W2.drew.heap.size=Y.heap.size->(∀ k,k≠L->k≠L+1->k≠L+2->Y.heap[k]?=W2.drew.heap[k]?)->(Exit.ret=Exit.ret/\JxX w L (pre++[t]) Y)/\Keeps (FpX L) W2 Y:=fun Y hY hbY hsY hoY=>by
    have hbY2:Bw w Y:=hbW.trans ((Gd w.heap.size W2).drew.trans hbY);refine⟨⟨rfl,hbY2,⟨t,by simp,h⟩,_,_,hY,h⟩,hbY.os,hbY.tape,hbY.output,by rw [<- hsY,hd];exact UY _,fun k hk hf=>hoY k (fun e=>hf (.inl e)) (fun e=>hf (.inr (.inl e))) (fun e=>hf (.inr (.inr (.inl e)))),fun k hk=>?_⟩;rcases FpX.row hY hk with h1 | h1 | h1 | ⟨a,h1,_⟩
    ·exact .inl (.inl h1)
    ·exact .inl (.inr (.inl h1))
    ·exact .inl (.inr (.inr (.inl h1)))
    ·cases h1
   refine DrawE.treeQ [3,4,5] (.op 0 (.op 2 (.alt (.op 3 (.op 1 (.op 4 (.op 5 .nil)))) (.op 1 (.op 3 (.op 4 (.op 5 .nil))))))) (by kernel_rfl) (Gi ?_ ?_)
   ·refine zJ (v := .slice none 0 0) zpH hrd.l rfl rfl rfl ?_;have q0:(W2.drew.setRow L (Value.slice none 0 0).cells).heap[W.heap.size]?=some (.cells (ji.enc t).toArray 175 (0,0)):=(zr (by omega)).trans (hdr f2);refine⟨_,zc (za q0) (i:=2) rfl,?_⟩;have q1:(W2.drew.setRow L (Value.slice none 0 0).cells).heap[L+1]?=some (.cells #[i64 0] 3 (0,0)):=(zr (by omega)).trans hrd.p;refine zJ (v:=i64 t.pos) k3 q1 rfl rfl rfl ?_;have q2:((W2.drew.setRow L (Value.slice none 0 0).cells).setRow (L+1) (i64 t.pos).cells).heap[L+2]?=some (.cells #[i64 0] 34 (0,0)):=(zr (by omega)).trans ((zr (by omega)).trans hrd.e);refine zJ (v:=i64 (jo t)) k34 q2 rfl rfl rfl (fin _ ⟨?_,?_,zA q2⟩ ?_ (by simp) ?_)
    ·exact (zr (by omega)).trans ((zr (by omega)).trans (zA hrd.l))
    ·exact (zr (by omega)).trans (zA q1)
    ·exact zC (zC (zC (Gd _ W2.drew) (by omega) _) (by omega) _) (by omega) _
    ·intro k h1 h2 h3;exact (zr h3).trans ((zr h2).trans (zr h1))
   ·exact⟨_,zc (za (hdr f2)) (i:=2) rfl,put3 W2.drew _ _ _ hrd t.pos (jo t) _ fin⟩
  ·have h:jo t=0:=by
    have h1:(!decide (jo t=0))=false:=h;simpa using h1
   refine⟨_,zc (za hr.l) (i:=0) rfl,_,rfl,za f2,hlt f2,⟨by decide,by decide,rfl⟩,ji.enc t,za1 (ji.len t) rfl,?_⟩;have hpl:pre.length+1<=40000:=by
    have:=hpre.length_le;simp at this;omega
   refine jA (E:=ji) (news:=[t]) (B:=W1.heap.size) Tryz.underlying170 zjD rfl rfl rfl (ho.alloc _) rfl (qF ji t) (by simp;omega) (by show pre.length+1<=_;omega) (by show (pre.length+1)*32<=_;omega) ?_;intro p3 cap3 W4 ho4 hg4 hb4 hat;have hL2:L<W2.heap.size:=hlt hr.l;have hr3:ResX L (W2.alloc (.cells (ji.enc t).toArray 175)) (.slice p pre.length cap) 0 0:=⟨qG _ hr.l,qG _ hr.p,qG _ hr.e⟩;have hr4:ResX L W4 (.slice p pre.length cap) 0 0:=hr3.same fun k hk=>hb4.block k (by omega);refine zJ (v := .slice p3 (pre++[t]).length cap3) zpH hr4.l rfl rfl rfl ?_;have hr5:ResX L (W4.setRow L (Value.slice p3 (pre++[t]).length cap3).cells) (.slice p3 (pre++[t]).length cap3) 0 0:=⟨zA hr4.l,(zr (by omega)).trans hr4.p,(zr (by omega)).trans hr4.e⟩;have hbB:Below w.heap.size W2 (W4.setRow L (Value.slice p3 (pre++[t]).length cap3).cells) :=
    zC (((Gd _ W2).alloc (by omega) _).trans (hb4.mono (by omega))) (by omega) _
   refine Gi ⟨hbW.trans hbB,fun u hu=>?_,p3,cap3,hr5,ho4.same fun a ha=>?_⟩ ⟨hbB.os,hbB.tape,hbB.output,hbB.size,fun k hk hf=>?_,fun k hk=>?_⟩
   ·rcases QU.1 hu with hu | hu
    ·exact hfl u hu
    ·simp only [KD] at hu;rw [hu];exact h
   ·refine zr ?_;rcases ho4.inv with ⟨h1,_⟩ | ⟨g',_,h1,h2,_⟩
    ·rw [h1] at ha;cases ha
    ·rw [h1] at ha;cases ha;dsimp only;omega
   ·have h1:k≠L:=fun e=>hf (.inl e);rw [zr h1];refine (hg4.block k (by simp;omega) ?_).trans ?_
    ·intro e
     cases p with
     | none=>simp [Value.ownBlock] at e
     | some a =>
      simp only [Value.ownBlock,Qc] at e;exact hf (.inr (.inr (.inr ⟨a,_,_,hr.l,e⟩)))
    ·show (W2.heap.push _)[k]?=_;rw [Array.getElem?_push,Gq (Nat.ne_of_lt hk)]
   ·rcases FpX.row hr5 hk with h1 | h1 | h1 | ⟨a,ha,rfl⟩
    ·exact .inl (.inl h1)
    ·exact .inl (.inr (.inl h1))
    ·exact .inl (.inr (.inr (.inl h1)))
    ·rcases hat a ha with h1 | h1
     ·exact .inl (.inr (.inr (.inr ⟨a,_,_,h1▸hr.l,rfl⟩)))
     ·refine .inr ?_;rw [h1];simp
 ·intro D W hD hfD hJ hdef;obtain⟨hbW,hfl,p,cap,hr,ho⟩:=hJ;refine⟨_,zc (za hr.l) (i:=0) rfl,zJ (v := .slice p (qQ s).length cap) zpH hr.l rfl rfl rfl ?_⟩;have q1:(W.setRow L (Value.slice p (qQ s).length cap).cells).heap[L+1]?=some (.cells #[i64 0] 3 (0,0)):=(zr (by omega)).trans hr.p;refine zJ (v:=i64 0) k3 q1 rfl rfl rfl ?_;have q2:((W.setRow L (Value.slice p (qQ s).length cap).cells).setRow (L+1) (i64 0).cells).heap[L+2]?=some (.cells #[i64 0] 34 (0,0)):=(zr (by omega)).trans ((zr (by omega)).trans hr.e);refine zJ (v:=i64 0) k34 q2 rfl rfl rfl ?_;obtain⟨S,hS⟩:=nm (((W.setRow L (Value.slice p (qQ s).length cap).cells).setRow (L+1) (i64 0).cells).setRow (L+2) (i64 0).cells);have rS:ResX L S (.slice p (qQ s).length cap) 0 0:=by
   rw [hS];exact⟨(zr (by omega)).trans ((zr (by omega)).trans (zA hr.l)),(zr (by omega)).trans (zA q1),zA q2⟩
  have bS:Below w.heap.size W S:=by rw [hS];exact zC (zC (zC (Gd _ W) (by omega) _) (by omega) _) (by omega) _
  have oS:∀ k,k≠L->k≠L+1->k≠L+2->S.heap[k]?=W.heap[k]?:=fun k h1 h2 h3=>by rw [hS];exact (zr h3).trans ((zr h2).trans (zr h1))
  have dS:S.heap[D]?=some (.deferred (some [])):=(oS D (by omega) (by omega) (by omega)).trans hdef;rw [<- hS];refine⟨_,rfl,dS,?_⟩;have rP:ResX L (S.putObj D (.deferred none)) (.slice p (qQ s).length cap) 0 0:=rS.same fun k hk=>zg (by omega);refine⟨_,zc (za rP.l) (i:=0) rfl,_,zc (za rP.p) (i:=0) rfl,_,zc (za rP.e) (i:=0) rfl,p,cap,(qQ s).length,0,0,rfl,fun _=>⟨rfl,rfl,?_⟩,fun h=>?_,qP (hbW.trans bS) (by omega) _⟩
  ·exact (ho.same fun a ha=>by
    have hne:a.block≠L/\a.block≠L+1/\a.block≠L+2/\a.block≠D:=by
     rcases ho.inv with ⟨h1,_⟩ | ⟨g',_,h1,h2,h3,_⟩
     ·rw [h1] at ha;cases ha
     ·rw [h1] at ha;cases ha;refine⟨by dsimp only;omega,by dsimp only;omega,by dsimp only;omega,fun e=>?_⟩;have e:g'=D:=e;rw [e,hdef] at h3;cases h3
    exact (zg hne.2.2.2).trans (oS _ hne.1 hne.2.1 hne.2.2.1)).row
  ·rw [hok1 hfl] at h;cases h
 ·rintro D ex pre W hD hfD hpre ⟨rfl,hbW,⟨t,ht,hft⟩,pl,er,hr,her⟩ hdef;refine⟨_,rfl,hdef,?_⟩;have rP:ResX L (W.putObj D (.deferred none)) (.slice none 0 0) pl er:=hr.same fun k hk=>zg (by omega);refine⟨_,zc (za rP.l) (i:=0) rfl,_,zc (za rP.p) (i:=0) rfl,_,zc (za rP.e) (i:=0) rfl,none,0,0,pl,er,rfl,fun h=>?_,fun _=>her,qP hbW (by omega) _⟩;rw [hok2 ⟨t,hpre.subset ht,hft⟩] at h;cases h
theorem zoe (s:List UInt8) (hs:s.length<=140737488351232) (w:Wd):CB 60 #[qk s] w (.bool (zda s)):=by
 refine zI 34 [qk s] Tryz.func60 ?_;have hdef:zda s=(zcP s&&znn (qQ s) s):=by
  unfold zda zcP;rw [Bool.and_assoc]
 refine cmo (zso s hs w) ?_;rintro e V ⟨p,cap,n,pl,er,rfl,h1,h2,hb⟩
 cases hk:zcP s with
 | false =>
  have her:=h2 hk;rw [hdef,hk,Ul];exact brN (by exact Uj her) (brF (brF ⟨rfl,hb⟩))
 | true =>
  obtain⟨rfl,rfl,hr⟩:=h1 hk;rw [hdef,hk,UA];refine brT (biE (fun h=>?_) fun h=>?_)
  ·have h:(qQ s).length=2:=by have h:((qQ s).length:Int)=2:=dT h;omega
   match hx:qQ s,h with
   | [t,u],_ =>
    rw [hx] at hr;obtain⟨b,o,rfl,hbb,hc⟩:=hr.at (i:=0) (by simp);have hc:=hc 0 (by simp);refine⟨0,rfl,(by show 0<2;omega),_,zc hc (i:=0) rfl,?_⟩;have kd:decide ((t.kind.toNat:Int)=1)=decide (t.kind=1):=(by rw [QI];exact jh (y:=1));refine biE (fun h=>?_) fun h=>?_
    ·have h:decide (t.kind=1)=true:=kd.symm.trans h;exact⟨0,rfl,(by show 0<2;omega),_,zc hc (i:=1) rfl,_,fun w=>jc _ _ t.text s w,rb (by unfold znn;simp only [h,UA]),hb⟩
    ·have h:decide (t.kind=1)=false:=kd.symm.trans h;exact⟨rb (by unfold znn;simp only [h,Ul]),hb⟩
  ·have h:¬ (qQ s).length=2:=by have h:¬ ((qQ s).length:Int)=2:=dF h;omega
   refine brF ⟨rb ?_,hb⟩;have gen:∀ l:List Tok,¬ l.length=2->false=znn l s:=fun l hl=>by
    match l,hl with
    | [],_=>rfl
    | [_],_=>rfl
    | [_,_],hl=>exact Gs rfl hl
    | _::_::_::_,_=>rfl
   exact gen _ h
theorem zrL (s:List UInt8) (w:Wd):Calls PG 119 #[qk s] w fun e w'=>e = .returned (.bool (zgl s))/\w=w':=by
 refine zI 22 [qk s] Tryz.func119 ?_;refine⟨_,fun w=>jc _ _ s [116,101,115,116] w,?_⟩;refine biE (fun h=>?_) fun h0=>?_
 ·refine brE h ?_;exact⟨rb (Qn.2 ⟨[116,101,115,116],by decide,h⟩).symm,rfl⟩
 refine⟨_,fun w=>jc _ _ s [105,110,105,116] w,?_⟩;refine biE (fun h=>?_) fun h1=>?_
 ·refine brE h ?_;exact⟨rb (Qn.2 ⟨[105,110,105,116],by decide,h⟩).symm,rfl⟩
 refine⟨_,fun w=>jc _ _ s [116,104,114,101,97,100] w,?_⟩;refine biE (fun h=>?_) fun h2=>?_
 ·refine brE h ?_;exact⟨rb (Qn.2 ⟨[116,104,114,101,97,100],by decide,h⟩).symm,rfl⟩
 refine⟨_,fun w=>jc _ _ s [115,111,109,101] w,?_⟩;refine biE (fun h=>?_) fun h3=>?_
 ·refine brE h ?_;exact⟨rb (Qn.2 ⟨[115,111,109,101],by decide,h⟩).symm,rfl⟩
 refine⟨_,fun w=>jc _ _ s [110,111,110,101] w,?_⟩;refine biE (fun h=>?_) fun h4=>?_
 ·refine brE h ?_;exact⟨rb (Qn.2 ⟨[110,111,110,101],by decide,h⟩).symm,rfl⟩
 refine⟨_,fun w=>jc _ _ s [97,108,108] w,?_⟩;refine biE (fun h=>?_) fun h5=>?_
 ·refine brE h ?_;exact⟨rb (Qn.2 ⟨[97,108,108],by decide,h⟩).symm,rfl⟩
 refine⟨_,fun w=>jc _ _ s [97,99,113] w,?_⟩;refine biE (fun h=>?_) fun h6=>?_
 ·refine brE h ?_;exact⟨rb (Qn.2 ⟨[97,99,113],by decide,h⟩).symm,rfl⟩
 refine⟨_,fun w=>jc _ _ s [114,101,108] w,?_⟩;refine biE (fun h=>?_) fun h7=>?_
 ·refine brE h ?_;exact⟨rb (Qn.2 ⟨[114,101,108],by decide,h⟩).symm,rfl⟩
 refine⟨_,fun w=>jc _ _ s [115,119,97,112] w,?_⟩;refine biE (fun h=>?_) fun h8=>?_
 ·refine brE h ?_;exact⟨rb (Qn.2 ⟨[115,119,97,112],by decide,h⟩).symm,rfl⟩
 refine⟨_,fun w=>jc _ _ s [102,101,116,99,104] w,?_⟩;refine biE (fun h=>?_) fun h9=>?_
 ·refine brE h ?_;exact⟨rb (Qn.2 ⟨[102,101,116,99,104],by decide,h⟩).symm,rfl⟩
 refine⟨_,fun w=>jc _ _ s [99,97,115] w,?_⟩;refine biE (fun h=>?_) fun h10=>?_
 ·refine brE h ?_;exact⟨rb (Qn.2 ⟨[99,97,115],by decide,h⟩).symm,rfl⟩
 refine⟨_,fun w=>jc _ _ s [102,101,110,99,101] w,?_⟩;refine biE (fun h=>?_) fun h11=>?_
 ·refine brE h ?_;exact⟨rb (Qn.2 ⟨[102,101,110,99,101],by decide,h⟩).symm,rfl⟩
 refine⟨_,fun w=>jc _ _ s [108,111,97,100,115] w,?_⟩;refine biE (fun h=>?_) fun h12=>?_
 ·refine brE h ?_;exact⟨rb (Qn.2 ⟨[108,111,97,100,115],by decide,h⟩).symm,rfl⟩
 refine⟨_,fun w=>jc _ _ s [115,116,111,114,101,115] w,?_⟩;refine biE (fun h=>?_) fun h13=>?_
 ·refine brE h ?_;exact⟨rb (Qn.2 ⟨[115,116,111,114,101,115],by decide,h⟩).symm,rfl⟩
 refine⟨_,fun w=>jc _ _ s [115,107,105,112] w,?_⟩;refine biE (fun h=>?_) fun h14=>?_
 ·refine brE h ?_;exact⟨rb (Qn.2 ⟨[115,107,105,112],by decide,h⟩).symm,rfl⟩
 refine⟨_,fun w=>jc _ _ s [105,102] w,?_⟩;refine biE (fun h=>?_) fun h15=>?_
 ·refine brE h ?_;exact⟨rb (Qn.2 ⟨[105,102],by decide,h⟩).symm,rfl⟩
 refine⟨_,fun w=>jc _ _ s [116,114,117,101] w,?_⟩;refine biE (fun h=>?_) fun h16=>?_
 ·exact⟨rb (Qn.2 ⟨[116,114,117,101],by decide,h⟩).symm,rfl⟩
 exact⟨rb (by unfold zgl zqD;simp only [List.any_cons,List.any_nil,h0,h1,h2,h3,h4,h5,h6,h7,h8,h9,h10,h11,h12,h13,h14,h15,h16];rfl),rfl⟩
theorem zrI (s:List UInt8) (hs:s.length<=140737488351232) (w:Wd):Calls PG 89 #[qk s] w fun e w'=>e = .returned (.bool (zd7 s))/\w=w':=by
 refine qX 55 [qk s] (.s .p (.c .p (.s .p (.c .p .p)))) Tryz.func89 ?_;refine⟨Unit,fun _=>⟨[(0,qk s)],[]⟩,fun _ X=>(∃ c r,s=c::r/\r.length+1<=16/\z7 c=3/\zgl s=false)/\w=X,?_,?_⟩
 ·refine biE (fun h=>?_) fun h=>?_
  ·have h:(s.length:Int)<1:=dT h;have h0:s=[]:=Jg (by omega);subst h0;refine brT ?_;refine brT ?_;refine brT ?_;exact⟨rfl,rfl⟩
  have h:¬ (s.length:Int)<1:=dF h;obtain⟨c,r,rfl⟩:∃ c r,s=c::r:=by
   cases s with
   | nil=>simp at h
   | cons c r=>exact⟨c,r,rfl⟩
  have hdef:zd7 (c::r)=(decide (r.length+1<=16)&&(decide (z7 c=3)&&(!zgl (c::r)&&(r.all qt&&(!decide (c=114)||(decide (qN r=0)||decide (qN r<r.length))))))):=rfl;have hsz:(((bs (c::r)).size:Nat):Int)=(r.length+1:Nat):=rfl;refine biE (fun h2=>?_) fun h2=>?_
  ·have h2:(16:Int)<((r.length+1:Nat):Int):=dT h2;refine brT ?_;refine brT ?_;exact⟨rb (by rw [hdef,Uj (by omega)];rfl),rfl⟩
  have h2:¬ (16:Int)<((r.length+1:Nat):Int):=dF h2;refine⟨0,rfl,Nat.succ_pos _,c,rfl,?_⟩;refine cmo (jP c _) ?_;rintro e _ ⟨rfl,rfl⟩;refine biE (fun h3=>?_) fun h3=>?_
  ·have h3:¬ z7 c=3:=by
    have h1:(!decide ((z7 c:Int)=3))=true:=h3;simp at h1;omega
   refine brT ?_;exact⟨rb (by rw [hdef,Uj h3];simp),rfl⟩
  have h3:z7 c=3:=by
   have h1:(!decide ((z7 c:Int)=3))=false:=h3;simp at h1;omega
  refine cmo (zrL (c::r) _) ?_;rintro e _ ⟨rfl,rfl⟩;refine biE (fun h4=>?_) fun h4=>?_
  ·have h4:zgl (c::r)=true:=h4;exact⟨rb (by rw [hdef,h4];simp),rfl⟩
  ·exact⟨(),(cvE rfl rfl),⟨c,r,rfl,by omega,h3,h4⟩,rfl⟩
 rintro _ _ ⟨⟨c,r,rfl,h1,h3,h4⟩,rfl⟩;have hdef:zd7 (c::r)=(r.all qt&&(!decide (c=114)||(decide (qN r=0)||decide (qN r<r.length)))):=by
  show (decide (r.length+1<=16)&&(decide (z7 c=3)&&(!zgl (c::r)&&(r.all qt&&(!decide (c=114)||(decide (qN r=0)||decide (qN r<r.length)))))))=_;rw [Uu h1,Uu h3,h4];rfl
 rw [hdef];refine⟨Unit,fun _=>⟨[(0,qk (c::r)),(3,i64 (qN r:Nat))],[]⟩,fun _ X=>r.all qt=true/\w=X,?_,?_⟩
 ·refine⟨Nat,fun k=>⟨[(0,qk (c::r)),(3,i64 (qN (r.take k):Nat)),(4,i64 (k+1:Nat))],[]⟩,fun k X=>k<=r.length/\(∀ d∈r.take k,qt d=true)/\qN (r.take k)<=k/\w=X,fun k=>r.length-k,0,(cvE rfl rfl),⟨Gb _,by simp,UY _,rfl⟩,?_⟩;rintro k _ ⟨hk,hw,hdk,rfl⟩;dsimp only at hk hw hdk ⊢;refine biE (fun hc=>?_) fun hc=>?_
  ·have hc:((k+1:Nat):Int)<((r.length+1:Nat):Int):=dT hc;have hl:k<r.length:=by omega
   have hat:(bs (c::r)).data.toList[k+1]?=some r[k]:=by
    show (c::r)[k+1]?=_;rw [Jy,gE hl]
   refine⟨k+1,rfl,(by show k+1<r.length+1;omega),r[k],hat,?_⟩;refine cmo (zjF _ _) ?_;rintro e _ ⟨rfl,rfl⟩;refine biE (fun hi=>?_) fun hi=>?_
   ·have hi:(!qt r[k])=true:=hi;have hi:qt r[k]=false:=(by simpa using hi);have:r.all qt=false:=by
     rw [KQ];exact⟨r[k],gM _,by rw [hi];simp⟩
    exact⟨rb (by rw [this];rfl),rfl⟩
   have hi:(!qt r[k])=false:=hi;have hi:qt r[k]=true:=by simpa using hi
   have hw':∀ d∈r.take (k+1),qt d=true:=by
    rw [tsg hl];intro d hd;rcases QU.1 hd with hd | hd
    ·exact hw d hd
    ·simp only [KD] at hd;rw [hd];exact hi
   have hds:qN (r.take (k+1))=qN (r.take k)+(if za6 r[k]=true then 1 else 0):=by
    unfold qN;rw [tsg hl,Ky,lap];congr 1;by_cases h:za6 r[k]=true
    ·rw [Gr h,List.filter_cons_of_pos h];rfl
    ·rw [Gq h,List.filter_cons_of_neg h];rfl
   refine⟨k+1,rfl,(by show k+1<r.length+1;omega),r[k],hat,?_⟩;refine cmo (jP _ _) ?_;rintro e _ ⟨rfl,rfl⟩;have hd:decide ((z7 r[k]:Int)=4)=za6 r[k]:=zbL (b:=4);refine biE (fun hg=>?_) fun hg=>?_
   ·have hg:za6 r[k]=true:=hd.symm.trans hg;rw [Gr hg] at hds;refine⟨(qN (r.take (k+1)):Int),(ze (by omega)).trans (by omega),?_⟩;refine⟨((k+1+1:Nat):Int),(ze (by omega)).trans (by omega),?_⟩;exact⟨k+1,(cvE rfl rfl),⟨hl,hw',by omega,rfl⟩,zdc (by omega)⟩
   ·have hg:¬ za6 r[k]=true:=(by rw [Ql];exact hd.symm.trans hg);rw [Gq hg] at hds;refine⟨((k+1+1:Nat):Int),(ze (by omega)).trans (by omega),?_⟩;exact⟨k+1,⟨.cons rfl (.cons (by rw [hds];rfl) (.cons rfl .nil)),rfl⟩,⟨hl,hw',by omega,rfl⟩,zdc (by omega)⟩
  ·have hc:¬ ((k+1:Nat):Int)<((r.length+1:Nat):Int):=dF hc;obtain rfl:k=r.length:=by omega
   rw [Qz] at hw;exact⟨(),⟨.cons rfl (.cons (by rw [Qz];rfl) .nil),rfl⟩,Qm.2 hw,rfl⟩
 rintro _ _ ⟨hall,rfl⟩;rw [hall,UA];have hdl:qN r<=r.length:=JO _ _;refine⟨0,rfl,Nat.succ_pos _,c,rfl,?_⟩;have cd:decide ((c.toNat:Int)=114)=decide (c=114):=by rw [QI];exact jh (y:=114)
 refine biE (fun h=>?_) fun h=>?_
 ·have h:(!decide (c=114))=true:=by
   have h:(!decide ((c.toNat:Int)=114))=true:=h
   rwa [cd] at h
  refine brT ?_;exact⟨rb (by rw [h];rfl),rfl⟩
 have h:(!decide (c=114))=false:=by
  have h:(!decide ((c.toNat:Int)=114))=false:=h
  rwa [cd] at h
 rw [h,Ux];refine biE (fun h5=>?_) fun h5=>?_
 ·have h5:qN r=0:=by have h5:(qN r:Int)=0:=dT h5;omega
  exact⟨rb (by rw [Uu h5];rfl),rfl⟩
 have h5:¬ qN r=0:=by have h5:¬ (qN r:Int)=0:=dF h5;omega
 refine⟨(r.length:Nat),(ze (by show -9223372036854775808<=((r.length+1:Nat):Int)-1/\((r.length+1:Nat):Int)-1<=9223372036854775807;omega)).trans (by show ((r.length+1:Nat):Int)-1=_;omega),?_⟩;exact⟨rb (by rw [Uj h5,Ux,QI];omega),rfl⟩
theorem zqw (p:OA) (cap:Nat) (l:List (List UInt8)) (s:List UInt8) (w:Wd) (hl:SlR zjx w p l) (hn:l.length<=140737488351232) :
  Calls PG 121 #[.slice p l.length cap,qk s] w fun e w'=>∃ n:Int,e = .returned (i64 n)/\decide (0<=n)=l.any (fun q=>decide (q=s))/\w=w':=by
 refine zI 19 [.slice p l.length cap,qk s] Tryz.func121 ?_;refine⟨Nat,fun k=>⟨[(0,.slice p l.length cap),(1,qk s),(7,i64 l.length),(8,i64 (k:Nat))],[]⟩,fun k X=>k<=l.length/\(∀ q∈l.take k,¬ q=s)/\w=X,fun k=>l.length-k,0,(cvE rfl rfl),⟨Gb _,by simp,rfl⟩,?_⟩;rintro k _ ⟨hk,hno,rfl⟩;dsimp only at hk hno ⊢;refine biE (fun hc=>?_) fun hc=>?_
 ·have hc:(k:Int)<(l.length:Int):=dT hc;have hkl:k<l.length:=by omega
  obtain⟨b,o,rfl,hb,hat⟩:=hl.at hkl;refine⟨k,rfl,hkl,?_⟩;refine⟨_,zc (hat k hkl) (i:=0) rfl,?_⟩;refine⟨_,fun w=>jc _ _ s l[k] w,?_⟩;refine biE (fun h=>?_) fun h=>?_
  ·have h:s=l[k]:=dT h;refine⟨k,rfl,?_,rfl⟩;rw [Uu (by omega)];symm;rw [Qn];exact⟨l[k],gM _,Uu h.symm⟩
  ·have h:¬ s=l[k]:=dF h;refine⟨(k+1:Nat),(ze (by omega)).trans (by omega),?_⟩;refine⟨k+1,(cvE rfl rfl),⟨hkl,?_,rfl⟩,zdc (by omega)⟩;rw [tsg hkl];intro q hq;rcases QU.1 hq with hq | hq
   ·exact hno q hq
   ·simp only [KD] at hq;rw [hq];exact fun e=>h e.symm
 ·have hc:¬ (k:Int)<(l.length:Int):=dF hc;obtain rfl:k=l.length:=by omega
  rw [Qz] at hno;refine⟨-1,rfl,?_,rfl⟩;symm;show _=false;rw [KR];exact fun q hq=>by simpa using hno q hq
theorem zlb (p:OA) (cap:Nat) (l:List (List UInt8)) (s:List UInt8) (w:Wd) (hl:SlR zjx w p l) (hn:l.length<=140737488351232) :
  Calls PG 90 #[.slice p l.length cap,qk s] w fun e w'=>e = .returned (.bool (l.any fun q=>decide (q=s)))/\w=w':=by
 refine zI 9 [.slice p l.length cap,qk s] Tryz.func90 ?_;refine cmo (zqw p cap l s w hl hn) ?_;rintro e _ ⟨n,rfl,h,rfl⟩;exact⟨rb h,rfl⟩
def GlobC (w : Wd) : Prop := zx w ⟨2, 0, none⟩ (zd5.map u8)
theorem GlobC.below {w w2 : Wd} (h : GlobC w) (hb : Below w.heap.size w w2) : GlobC w2 := zm hb h
def spC (x : InsD) (locs after : Nat) : List Value := [u8 x.op, u8 x.dst, u8 x.loc, .bool x.ar, u8 x.an, .bool x.br, u8 x.bn, u8 x.fn, u8 x.mode, u8 x.skip, i64 locs, i64 after]
theorem u8d (x k : UInt8) : decide ((x.toNat : Int) = (k.toNat : Int)) = decide (x = k) := by rw [QI]; exact jh
theorem zqM (a b : UInt8) : IntKind.u8.wrap ((BitVec.ofInt IntKind.u8.bits (a.toNat : Int) &&& BitVec.ofInt IntKind.u8.bits (b.toNat : Int)).toNat : Int) = ((a &&& b).toNat : Int) := by
  have h : ∀ x : UInt8, BitVec.ofInt 8 (x.toNat : Int) = x.toBitVec := fun x => by
    apply BitVec.eq_of_toNat_eq
    rw [Kv]
    have := x.toNat_lt
    show ((x.toNat : Int) % (2 ^ 8 : Nat)).toNat = x.toNat
    omega
  show IntKind.u8.wrap ((BitVec.ofInt 8 (a.toNat : Int) &&& BitVec.ofInt 8 (b.toNat : Int)).toNat : Int) = _
  rw [h, h]
  have e : (a.toBitVec &&& b.toBitVec).toNat = (a &&& b).toNat := rfl
  rw [e]
  have := (a &&& b).toNat_lt
  exact zdP (by omega)
theorem zed {g locs after : Nat} {x : InsD} {w : Wd} (bit : UInt8) (h : zx w ⟨g, 0, none⟩ (spC x locs after)) (hop : x.op.toNat ≤ 8) (hG : GlobC w) :
    Calls PG 127 #[.pointer (some ⟨g, 0, none⟩), u8 bit] w fun e w' => e = .returned (.bool (jy x.op bit)) ∧ w = w' := by
  refine jl (S := sg 15) (zbe _) (args := [.pointer (some ⟨g, 0, none⟩), u8 bit]) Tryz.func127 rfl rfl (JU rfl) rfl ?_
  refine ⟨_, zc h (i := 0) rfl, ?_⟩
  refine ⟨x.op.toNat, rfl, (by show x.op.toNat < 9; omega), ?_⟩
  have hn : (zd5.map u8)[x.op.toNat]? = some (u8 (zd5.getD x.op.toNat 0)) := by
    have hl : x.op.toNat < zd5.length := by show _ < 9; omega
    rw [KX, Jw hl, List.getD_eq_getElem?_getD, Jw hl]; rfl
  refine ⟨u8 (zd5.getD x.op.toNat 0), by rw [UZ]; exact zc hG hn, ?_⟩
  refine ⟨((zd5.getD x.op.toNat 0 &&& bit).toNat : Int), zqM _ _, ?_⟩
  exact ⟨rb (by unfold jy; rw [← u8d]; rfl), rfl⟩
theorem zgK (r : Bool) (n : UInt8) (w : Wd) : Calls PG 129 #[.agg #[.bool r, u8 n]] w fun e w' => e = .returned (.bool (ziK r n)) ∧ Below w.heap.size w w' := by
  refine jl (S := sg 11) (zbe _) (args := [.agg #[.bool r, u8 n]]) Tryz.func129 rfl rfl (JU rfl) rfl ?_
  have hb0 : Below w.heap.size w (w.alloc (.cells #[.bool r, u8 n] 39)) := (Gd _ _).alloc (UY _) _
  have c0 := za (zz w (.cells #[.bool r, u8 n] 39))
  refine ⟨_, zc c0 (i := 0) rfl, ?_⟩
  cases r with
  | false =>
    refine brT ?_
    exact ⟨rfl, hb0⟩
  | true =>
    refine brF ?_
    refine ⟨_, zc c0 (i := 1) rfl, ?_⟩
    refine ⟨rb ?_, hb0⟩
    show decide ((n.toNat : Int) < 8) = decide (n.toNat < 8)
    rw [QI]; omega
theorem zjy {g locs after : Nat} {x : InsD} {w : Wd} (h : zx w ⟨g, 0, none⟩ (spC x locs after)) :
    Calls PG 130 #[.pointer (some ⟨g, 0, none⟩)] w fun e w' => e = .returned (.bool (zd8 x)) ∧ w = w' := by
  refine jl (S := sg 64) (zbe _) (args := [.pointer (some ⟨g, 0, none⟩)]) Tryz.func130 rfl rfl (JU rfl) rfl ?_
  refine ⟨_, zc h (i := 0) rfl, ?_⟩
  refine Gi (fun h1 => ?_) (fun h1 => ?_)
  · have h1 : x.op = 1 := Qf ((u8d x.op 1).symm.trans h1)
    have e : zd8 x = (decide (x.mode = 0) || decide (x.mode = 1)) := by unfold zd8; rw [Gr h1]
    rw [e, ← u8d, ← u8d]
    refine ⟨_, zc h (i := 8) rfl, ?_⟩
    refine Gi (fun h2 => ?_) (fun h2 => ?_)
    · exact ⟨rb (by have h2 : decide ((x.mode.toNat : Int) = ((0 : UInt8).toNat : Int)) = true := h2
                    rw [h2]; rfl), rfl⟩
    · refine ⟨_, zc h (i := 8) rfl, ?_⟩
      exact ⟨rb (by have h2 : decide ((x.mode.toNat : Int) = ((0 : UInt8).toNat : Int)) = false := h2
                    rw [h2]; rfl), rfl⟩
  have h1 : ¬ x.op = 1 := KL ((u8d x.op 1).symm.trans h1)
  refine Gi (fun h2 => ?_) (fun h2 => ?_)
  · have h2 : x.op = 2 := Qf ((u8d x.op 2).symm.trans h2)
    have e : zd8 x = (decide (x.mode = 0) || decide (x.mode = 2)) := by unfold zd8; rw [Gq h1, Gr h2]
    rw [e, ← u8d, ← u8d]
    refine ⟨_, zc h (i := 8) rfl, ?_⟩
    refine Gi (fun h2 => ?_) (fun h2 => ?_)
    · exact ⟨rb (by have h2 : decide ((x.mode.toNat : Int) = ((0 : UInt8).toNat : Int)) = true := h2
                    rw [h2]; rfl), rfl⟩
    · refine ⟨_, zc h (i := 8) rfl, ?_⟩
      exact ⟨rb (by have h2 : decide ((x.mode.toNat : Int) = ((0 : UInt8).toNat : Int)) = false := h2
                    rw [h2]; rfl), rfl⟩
  have h2 : ¬ x.op = 2 := KL ((u8d x.op 2).symm.trans h2)
  refine Gi (fun h3 => ?_) (fun h3 => ?_)
  · have h3 : x.op = 7 := Qf ((u8d x.op 7).symm.trans h3)
    have e : zd8 x = (decide (x.mode = 3) || (decide (x.mode = 4) || decide (x.mode = 5))) := by unfold zd8; rw [Gq h1, Gq h2, Gr h3]
    rw [e, ← u8d, ← u8d, ← u8d]
    refine ⟨_, zc h (i := 8) rfl, ?_⟩
    refine Gi (fun h4 => ?_) (fun h4 => ?_)
    · refine brT ?_
      exact ⟨rb (by have h4 : decide ((x.mode.toNat : Int) = ((3 : UInt8).toNat : Int)) = true := h4
                    rw [h4]; rfl), rfl⟩
    have h4 : decide ((x.mode.toNat : Int) = ((3 : UInt8).toNat : Int)) = false := h4
    refine ⟨_, zc h (i := 8) rfl, ?_⟩
    refine Gi (fun h5 => ?_) (fun h5 => ?_)
    · exact ⟨rb (by have h5 : decide ((x.mode.toNat : Int) = ((4 : UInt8).toNat : Int)) = true := h5
                    rw [h4, h5]; rfl), rfl⟩
    have h5 : decide ((x.mode.toNat : Int) = ((4 : UInt8).toNat : Int)) = false := h5
    refine ⟨_, zc h (i := 8) rfl, ?_⟩
    exact ⟨rb (by rw [h4, h5]; rfl), rfl⟩
  have h3 : ¬ x.op = 7 := KL ((u8d x.op 7).symm.trans h3)
  exact ⟨rb (by unfold zd8; rw [Gq h1, Gq h2, Gq h3]), rfl⟩
theorem zmO {g locs after : Nat} {x : InsD} {w : Wd} (h : zx w ⟨g, 0, none⟩ (spC x locs after)) :
    Calls PG 131 #[.pointer (some ⟨g, 0, none⟩)] w fun e w' => e = .returned (.bool (fnL x)) ∧ w = w' := by
  refine jl (S := sg 56) (zbe _) (args := [.pointer (some ⟨g, 0, none⟩)]) Tryz.func131 rfl rfl (JU rfl) rfl ?_
  refine ⟨_, zc h (i := 0) rfl, ?_⟩
  refine Gi (fun h1 => ?_) (fun h1 => ?_)
  · have h1 : x.op = 3 := Qf ((u8d x.op 3).symm.trans h1)
    have e : fnL x = (decide (x.fn = 1) || (decide (x.fn = 2) || decide (x.fn = 3))) := by unfold fnL; rw [Gr h1]
    rw [e, ← u8d, ← u8d, ← u8d]
    refine ⟨_, zc h (i := 7) rfl, ?_⟩
    refine Gi (fun h4 => ?_) (fun h4 => ?_)
    · refine brT ?_
      exact ⟨rb (by have h4 : decide ((x.fn.toNat : Int) = ((1 : UInt8).toNat : Int)) = true := h4
                    rw [h4]; rfl), rfl⟩
    have h4 : decide ((x.fn.toNat : Int) = ((1 : UInt8).toNat : Int)) = false := h4
    refine ⟨_, zc h (i := 7) rfl, ?_⟩
    refine Gi (fun h5 => ?_) (fun h5 => ?_)
    · exact ⟨rb (by have h5 : decide ((x.fn.toNat : Int) = ((2 : UInt8).toNat : Int)) = true := h5
                    rw [h4, h5]; rfl), rfl⟩
    have h5 : decide ((x.fn.toNat : Int) = ((2 : UInt8).toNat : Int)) = false := h5
    refine ⟨_, zc h (i := 7) rfl, ?_⟩
    exact ⟨rb (by rw [h4, h5]; rfl), rfl⟩
  have h1 : ¬ x.op = 3 := KL ((u8d x.op 3).symm.trans h1)
  refine Gi (fun h2 => ?_) (fun h2 => ?_)
  · have h2 : x.op = 8 := Qf ((u8d x.op 8).symm.trans h2)
    have e : fnL x = (decide (x.fn = 4) || (decide (x.fn = 5) || decide (x.fn = 6))) := by unfold fnL; rw [Gq h1, Gr h2]
    rw [e, ← u8d, ← u8d, ← u8d]
    refine ⟨_, zc h (i := 7) rfl, ?_⟩
    refine Gi (fun h4 => ?_) (fun h4 => ?_)
    · refine brT ?_
      exact ⟨rb (by have h4 : decide ((x.fn.toNat : Int) = ((4 : UInt8).toNat : Int)) = true := h4
                    rw [h4]; rfl), rfl⟩
    have h4 : decide ((x.fn.toNat : Int) = ((4 : UInt8).toNat : Int)) = false := h4
    refine ⟨_, zc h (i := 7) rfl, ?_⟩
    refine Gi (fun h5 => ?_) (fun h5 => ?_)
    · exact ⟨rb (by have h5 : decide ((x.fn.toNat : Int) = ((5 : UInt8).toNat : Int)) = true := h5
                    rw [h4, h5]; rfl), rfl⟩
    have h5 : decide ((x.fn.toNat : Int) = ((5 : UInt8).toNat : Int)) = false := h5
    refine ⟨_, zc h (i := 7) rfl, ?_⟩
    exact ⟨rb (by rw [h4, h5]; rfl), rfl⟩
  have h2 : ¬ x.op = 8 := KL ((u8d x.op 8).symm.trans h2)
  exact ⟨rb (by unfold fnL; rw [Gq h1, Gq h2]), rfl⟩
set_option maxRecDepth 4000
def zph:InsD:=⟨0,0,0,false,0,false,0,0,0,0⟩
def nd0 (x:InsD):InsD:={ zph with op:=x.op }
def nd1 (x:InsD):InsD:={ nd0 x with dst:=if jy x.op 1 then x.dst else 0 }
def nd2 (x:InsD):InsD:={ nd1 x with loc:=if jy x.op 2 then x.loc else 0 }
def nd3 (x:InsD):InsD:={ nd2 x with ar:=jy x.op 4&&x.ar,an:=if jy x.op 4 then x.an else 0 }
def nd4 (x:InsD):InsD:={ nd3 x with br:=jy x.op 8&&x.br,bn:=if jy x.op 8 then x.bn else 0 }
def nd5 (x:InsD):InsD:={ nd4 x with fn:=if jy x.op 16 then x.fn else 0 }
def nd6 (x:InsD):InsD:={ nd5 x with mode:=if jy x.op 32 then x.mode else 0 }
def nd7 (x:InsD):InsD:={ nd6 x with skip:=if jy x.op 64 then x.skip else 0 }
theorem zn0 {g locs after:Nat} {x:InsD} {w:Wd} (h:zx w ⟨g,0,none⟩ (spC x locs after)) (hg:g<w.heap.size) (hop:x.op.toNat<=8) (hG:GlobC w) :
  CB 124 #[At0 g] w (.agg (zH.enc (zft x)).toArray):=by
 refine qX 67 [At0 g] (.s .p (.c .p (.c .p (.c .p (.c .p (.c .p (.c .p (.c .p (.c .p .p))))))))) Tryz.func124 ?_;obtain⟨r,hr⟩:=nm (w.heap.size);obtain⟨W0,hW0⟩:=nm (w.alloc (.cells (zH.enc zph).toArray 41));have hb0:Bw w W0:=by rw [hW0];exact (zba _ _)
 have f0:W0.heap[r]?=some (.cells (zH.enc zph).toArray 41 (0,0)):=by rw [hW0,hr];exact zz w _
 have s0:W0.heap.size=r+1:=by rw [hW0,wz,hr]
 let Good:InsD->Wd->Prop:=fun y X=>Bw w X/\X.heap[r]?=some (.cells (zH.enc zph).toArray 41 (0,0))/\X.heap[r+1]?=some (.cells (zH.enc y).toArray 41 (0,0))
 have good:∀ y X,Good y X->zx X ⟨g,0,none⟩ (spC x locs after)/\GlobC X/\g<X.heap.size:=fun y X ⟨hb,_,_⟩=>⟨jK hb hg h,hG.below hb,by have:=hb.size;omega⟩;have turn:∀ y z X Y,Good y X->X.grownBy Y (some (r+1))->Y.heap[r+1]?=some (.cells (zH.enc z).toArray 41 (0,0))->Good z Y:=fun y z X Y ⟨hb,h1,h2⟩ hg' h3 =>
  ⟨hb.grown hg' hb.size (fun k e=>by simp only [Qc] at e;omega),(hg'.block _ (hlt h1) (fun e=>by simp only [Qc] at e;omega)).trans h1,h3⟩
 have start:∀ Y,Bw W0 Y->Y.heap[W0.heap.size]?=some (.cells (Value.agg (zH.enc (nd0 x)).toArray).cells 41 (0,0))->Good (nd0 x) Y:=fun Y hY fY =>
  ⟨(zst hb0 hY),zb hY f0,by rw [<- s0];exact fY⟩
 have h0:zx W0 ⟨g,0,none⟩ (spC x locs after):=jK hb0 hg h;have p2:some (Value.pointer (some ⟨w.heap.size,0,none⟩))=some (At0 r):=by rw [hr]
 have p3:some (Value.pointer (some ⟨W0.heap.size,0,none⟩))=some (At0 (r+1)):=by rw [s0]
 refine⟨Unit,fun _=>⟨[(0,At0 g),(2,At0 r),(3,At0 (r+1))],[]⟩,fun _ X=>Good (nd0 x) X,?_,?_⟩
 ·subst hW0;exact⟨_,zc h0 (i:=0) rfl,zH.enc (nd0 x),rfl,zn (v := .agg (zH.enc (nd0 x)).toArray) k41 rfl rfl rfl fun Y hbY fY sY=>⟨(),⟨.cons rfl (.cons p2 (.cons p3 .nil)),rfl⟩,start Y hbY fY⟩⟩
 clear start h0 f0 hb0 p2 p3 s0;rintro _ Y hY;refine⟨Unit,fun _=>⟨[(0,At0 g),(2,At0 r),(3,At0 (r+1))],[]⟩,fun _ X=>Good (nd1 x) X,?_,?_⟩
 ·obtain⟨hc,hGY,hgY⟩:=good _ Y hY;refine cmo (zed 1 hc hop hGY) ?_;rintro e _ ⟨rfl,rfl⟩;refine biE (fun hh=>?_) fun hh=>?_
  ·have hh:jy x.op 1=true:=hh;have e:nd1 x={ nd0 x with dst:=x.dst }:=by unfold nd1;rw [Gr hh]
   exact⟨_,zc hc (i:=1) rfl,qS k5 rfl (hY.2.2) (o:=1) (by show 1<10;omega) (v:=u8 x.dst) rfl rfl fun Z fZ gZ sZ=>⟨(),(cvE rfl rfl),turn _ _ Y Z hY gZ (by rw [e];exact fZ)⟩⟩
  ·have hh:jy x.op 1=false:=hh;have e:nd1 x=nd0 x:=by unfold nd1;rw [Gq (by rw [hh];decide)];rfl
   exact⟨(),(cvE rfl rfl),by rw [e];exact hY⟩
 clear hY Y;rintro _ Y hY;refine⟨Unit,fun _=>⟨[(0,At0 g),(2,At0 r),(3,At0 (r+1))],[]⟩,fun _ X=>Good (nd2 x) X,?_,?_⟩
 ·obtain⟨hc,hGY,hgY⟩:=good _ Y hY;refine cmo (zed 2 hc hop hGY) ?_;rintro e _ ⟨rfl,rfl⟩;refine biE (fun hh=>?_) fun hh=>?_
  ·have hh:jy x.op 2=true:=hh;have e:nd2 x={ nd1 x with loc:=x.loc }:=by unfold nd2;rw [Gr hh]
   exact⟨_,zc hc (i:=2) rfl,qS k5 rfl (hY.2.2) (o:=2) (by show 2<10;omega) (v:=u8 x.loc) rfl rfl fun Z fZ gZ sZ=>⟨(),(cvE rfl rfl),turn _ _ Y Z hY gZ (by rw [e];exact fZ)⟩⟩
  ·have hh:jy x.op 2=false:=hh;have e:nd2 x=nd1 x:=by unfold nd2;rw [Gq (by rw [hh];decide)];rfl
   exact⟨(),(cvE rfl rfl),by rw [e];exact hY⟩
 clear hY Y;rintro _ Y hY;refine⟨Unit,fun _=>⟨[(0,At0 g),(2,At0 r),(3,At0 (r+1))],[]⟩,fun _ X=>Good (nd3 x) X,?_,?_⟩
 ·obtain⟨hc,hGY,hgY⟩:=good _ Y hY;refine cmo (zed 4 hc hop hGY) ?_;rintro e _ ⟨rfl,rfl⟩;refine biE (fun hh=>?_) fun hh=>?_
  ·have hh:jy x.op 4=true:=hh;have e:nd3 x={ nd2 x with ar:=x.ar,an:=x.an }:=by unfold nd3;rw [hh,UA,Gr rfl]
   exact⟨[.bool x.ar,u8 x.an],rfl,zK (n:=3) (m:=2) hc,hgY,jU k39 hY.2.2 (o:=3) (v := .agg #[.bool x.ar,u8 x.an]) rfl (by show 3+2<=10;omega) rfl fun Z fZ gZ sZ=>⟨(),(cvE rfl rfl),turn _ _ Y Z hY gZ (by rw [e];exact fZ)⟩⟩
  ·have hh:jy x.op 4=false:=hh;have e:nd3 x=nd2 x:=by unfold nd3;rw [hh,Ul,Gq (by decide)];rfl
   exact⟨(),(cvE rfl rfl),by rw [e];exact hY⟩
 clear hY Y;rintro _ Y hY;refine⟨Unit,fun _=>⟨[(0,At0 g),(2,At0 r),(3,At0 (r+1))],[]⟩,fun _ X=>Good (nd4 x) X,?_,?_⟩
 ·obtain⟨hc,hGY,hgY⟩:=good _ Y hY;refine cmo (zed 8 hc hop hGY) ?_;rintro e _ ⟨rfl,rfl⟩;refine biE (fun hh=>?_) fun hh=>?_
  ·have hh:jy x.op 8=true:=hh;have e:nd4 x={ nd3 x with br:=x.br,bn:=x.bn }:=by unfold nd4;rw [hh,UA,Gr rfl]
   exact⟨[.bool x.br,u8 x.bn],rfl,zK (n:=5) (m:=2) hc,hgY,jU k39 hY.2.2 (o:=5) (v := .agg #[.bool x.br,u8 x.bn]) rfl (by show 5+2<=10;omega) rfl fun Z fZ gZ sZ=>⟨(),(cvE rfl rfl),turn _ _ Y Z hY gZ (by rw [e];exact fZ)⟩⟩
  ·have hh:jy x.op 8=false:=hh;have e:nd4 x=nd3 x:=by unfold nd4;rw [hh,Ul,Gq (by decide)];rfl
   exact⟨(),(cvE rfl rfl),by rw [e];exact hY⟩
 clear hY Y;rintro _ Y hY;refine⟨Unit,fun _=>⟨[(0,At0 g),(2,At0 r),(3,At0 (r+1))],[]⟩,fun _ X=>Good (nd5 x) X,?_,?_⟩
 ·obtain⟨hc,hGY,hgY⟩:=good _ Y hY;refine cmo (zed 16 hc hop hGY) ?_;rintro e _ ⟨rfl,rfl⟩;refine biE (fun hh=>?_) fun hh=>?_
  ·have hh:jy x.op 16=true:=hh;have e:nd5 x={ nd4 x with fn:=x.fn }:=by unfold nd5;rw [Gr hh]
   exact⟨_,zc hc (i:=7) rfl,qS k5 rfl (hY.2.2) (o:=7) (by show 7<10;omega) (v:=u8 x.fn) rfl rfl fun Z fZ gZ sZ=>⟨(),(cvE rfl rfl),turn _ _ Y Z hY gZ (by rw [e];exact fZ)⟩⟩
  ·have hh:jy x.op 16=false:=hh;have e:nd5 x=nd4 x:=by unfold nd5;rw [Gq (by rw [hh];decide)];rfl
   exact⟨(),(cvE rfl rfl),by rw [e];exact hY⟩
 clear hY Y;rintro _ Y hY;refine⟨Unit,fun _=>⟨[(0,At0 g),(2,At0 r),(3,At0 (r+1))],[]⟩,fun _ X=>Good (nd6 x) X,?_,?_⟩
 ·obtain⟨hc,hGY,hgY⟩:=good _ Y hY;refine cmo (zed 32 hc hop hGY) ?_;rintro e _ ⟨rfl,rfl⟩;refine biE (fun hh=>?_) fun hh=>?_
  ·have hh:jy x.op 32=true:=hh;have e:nd6 x={ nd5 x with mode:=x.mode }:=by unfold nd6;rw [Gr hh]
   exact⟨_,zc hc (i:=8) rfl,qS k5 rfl (hY.2.2) (o:=8) (by show 8<10;omega) (v:=u8 x.mode) rfl rfl fun Z fZ gZ sZ=>⟨(),(cvE rfl rfl),turn _ _ Y Z hY gZ (by rw [e];exact fZ)⟩⟩
  ·have hh:jy x.op 32=false:=hh;have e:nd6 x=nd5 x:=by unfold nd6;rw [Gq (by rw [hh];decide)];rfl
   exact⟨(),(cvE rfl rfl),by rw [e];exact hY⟩
 clear hY Y;rintro _ Y hY;refine⟨Unit,fun _=>⟨[(0,At0 g),(2,At0 r),(3,At0 (r+1))],[]⟩,fun _ X=>Good (nd7 x) X,?_,?_⟩
 ·obtain⟨hc,hGY,hgY⟩:=good _ Y hY;refine cmo (zed 64 hc hop hGY) ?_;rintro e _ ⟨rfl,rfl⟩;refine biE (fun hh=>?_) fun hh=>?_
  ·have hh:jy x.op 64=true:=hh;have e:nd7 x={ nd6 x with skip:=x.skip }:=by unfold nd7;rw [Gr hh]
   exact⟨_,zc hc (i:=9) rfl,qS k5 rfl (hY.2.2) (o:=9) (by show 9<10;omega) (v:=u8 x.skip) rfl rfl fun Z fZ gZ sZ=>⟨(),(cvE rfl rfl),turn _ _ Y Z hY gZ (by rw [e];exact fZ)⟩⟩
  ·have hh:jy x.op 64=false:=hh;have e:nd7 x=nd6 x:=by unfold nd7;rw [Gq (by rw [hh];decide)];rfl
   exact⟨(),(cvE rfl rfl),by rw [e];exact hY⟩
 clear hY Y;rintro _ Y hY;exact⟨_,rfl,za hY.2.2,hlt hY.2.2,zJ (v := .agg (zH.enc (nd7 x)).toArray) k41 hY.2.1 rfl rfl rfl ⟨_,rfl,za (zA hY.2.1),rfl,zC hY.1 (by omega) _⟩⟩
end Go.Proofs.YtpalcnbhkigagaaGreatDoor
namespace Go.Vc
open Go.RowKit
def zY (cs:List Value) (o n:Nat):List Value:=(cs.drop o).take n
theorem zeW (cs:List Value) (o n m:Nat):zY cs o (n+m)=zY cs o n++zY cs (o+n) m:=by
 unfold zY;rw [List.take_add,Um]
theorem zdj {cs:List Value} {o n:Nat} (h:o+n<=cs.length):(zY cs o n).length=n:=by
 unfold zY;rw [Qx,Qw];omega
def vOf (g:Bool) (a:List Value):Value:=match g with | true => .agg a.toArray | false=>a.headD undef
structure TyEq (P:Program) (T:TypeId) (g:Bool) (n k:Nat) (G:List Value->Prop):Prop where
 ag:∀ w,(isAgg T).run P w = .ok g w
 info:∃ i,P.info? T=some i
 cl:P.cellsOf T=n
 one:g=false->n=1
 eq:∀ d w a b,a.length=n->b.length=n->G a->G b->∃ r:Bool,(Op.equalIn (d+k) T (vOf g a) (vOf g b)).run P w = .ok r w/\(r=true↔a=b)
section
variable {P:Program}
theorem TyEq.up {T:TypeId} {g:Bool} {n k:Nat} {G:List Value->Prop} (h:TyEq P T g n k G) (m:Nat):TyEq P T g n (m+k) G :=
 ⟨h.ag,h.info,h.cl,h.one,fun d w a b h1 h2 h3 h4=>by have:=h.eq (d+m) w a b h1 h2 h3 h4;rwa [UF] at this⟩
theorem TyEq.part {T:TypeId} {g:Bool} {n k:Nat} {G:List Value->Prop} (h:TyEq P T g n k G) (xs:Array Value) (o:Nat) (hs:o+n<=xs.size) (w:Wd):(Go.part T xs o).run P w = .ok (vOf g (zY xs.toList o n)) w:=by
 obtain⟨i,hi⟩:=h.info;have hsz:=run_sizeOf w hi;rw [h.cl] at hsz;simp only [Go.part,UV,h.ag,Qd]
 cases g with
 | true =>
  simp only [Gp,UV,hsz,Qd,UW,vOf];congr 2;apply Qh.1;simp [zY,JV,List.extract_eq_take_drop]
 | false =>
  have h1:=h.one rfl;subst h1;have ho:o<xs.size:=by omega
  simp only [Kw,Gm,Jo ho,UW,vOf];congr 1;unfold zY;rw [Jq (by simpa using ho)];simp
inductive Tile (P:Program) (k:Nat):List Field->Nat->Nat->(List Value->Prop)->Prop
 | nil {s:Nat}:Tile P k [] s s (fun _=>True)
 | cons {f : Field} {fs : List Field} {s e n : Nat} {g : Bool} {G G' : List Value → Prop} (hn : f.name ≠ "_") (ho : f.offset = s) (ht : TyEq P f.type g n k G) (hr : Tile P k fs (s + n) e G') : Tile P k (f :: fs) s e (fun cs => G (cs.take n) ∧ G' (cs.drop n))
theorem Tile.le {k:Nat} {fs:List Field} {s e:Nat} {G:List Value->Prop} (h:Tile P k fs s e G):s<=e:=by
 induction h with
 | nil=>exact UY _
 | cons _ _ _ _ ih=>omega
theorem Tile.eq {k:Nat} {fs:List Field} {s e:Nat} {G:List Value->Prop} (h:Tile P k fs s e G):∀ (d:Nat) (xs ys:Array Value) (w:Wd),e<=xs.size->e<=ys.size->G (zY xs.toList s (e-s))->G (zY ys.toList s (e-s)) ->
  ∃ r:Bool,(Op.eqFields (d+k) xs ys fs).run P w = .ok r w/\(r=true↔zY xs.toList s (e-s)=zY ys.toList s (e-s)):=by
 induction h with
 | nil=>intro d xs ys w _ _ _ _;exact⟨true,rfl,by simp [zY]⟩
 | @cons f fs s e n g G G' hn ho ht hr ih =>
  intro d xs ys w hx hy hgx hgy;have hle:=hr.le;have e1:e-s=n+(e-(s+n)):=by omega
  rw [e1,zeW] at hgx hgy;rw [e1,zeW,zeW];have lx:(zY xs.toList s n).length=n:=zdj (by simp;omega);have ly:(zY ys.toList s n).length=n:=zdj (by simp;omega);obtain⟨gx1,gx2⟩:=hgx;obtain⟨gy1,gy2⟩:=hgy;rw [Jh (by omega),JJ (by omega)] at gx1 gy1;rw [Jf (by omega),JE (by omega),QW] at gx2 gy2;obtain⟨r1,h1,h2⟩:=ht.eq d w _ _ lx ly gx1 gy1;obtain⟨r2,h3,h4⟩:=ih d xs ys w hx hy gx2 gy2;simp only [Op.eqFields,hn,ne_eq,not_false_eq_true,Gp,UV,ho,ht.part xs s (by omega) w,ht.part ys s (by omega) w,Qd,h1];have hap:(zY xs.toList s n++zY xs.toList (s+n) (e-(s+n))=zY ys.toList s n++zY ys.toList (s+n) (e-(s+n)))↔(zY xs.toList s n=zY ys.toList s n/\zY xs.toList (s+n) (e-(s+n))=zY ys.toList (s+n) (e-(s+n))) :=
   ⟨fun h=>List.append_inj h (by rw [lx,ly]),fun h=>by rw [h.1,h.2]⟩
  rw [hap,<- h2,<- h4]
  cases r1 with
  | true=>exact⟨r2,by simpa using h3,by simp⟩
  | false=>exact⟨false,by simp,by simp⟩
theorem TyEq.struct {T:TypeId} {k n:Nat} {G:List Value->Prop} (hu:P.underlying T=some (.struct (P.fieldsOf T))) (hp:P.stoodInHeld T=false) (hag:∀ w,(isAgg T).run P w = .ok true w) (hi:∃ i,P.info? T=some i) (hc:P.cellsOf T=n)
  (ht:Tile P k (P.fieldsOf T).toList 0 n G):TyEq P T true n (k+1) G :=
 ⟨hag,hi,hc,fun h=>(by cases h),fun d w a b ha hb ga gb=>by
  have e:∀ l:List Value,l.length=n->zY l.toArray.toList 0 (n-0)=l:=fun l hl=>by
   unfold zY;rw [Uo,UR];exact JJ (by show l.length<=n;omega)
  obtain⟨r,h1,h2⟩:=ht.eq d a.toArray b.toArray w (by simp;omega) (by simp;omega) (by rw [e a ha];exact ga) (by rw [e b hb];exact gb);rw [e a ha,e b hb] at h2;refine⟨r,?_,h2⟩;have:=run_equalIn_struct (P:=P) w (d+k) T a.toArray b.toArray hu hp;rw [<- UF];exact this.trans h1⟩
theorem zmX {n m:Nat} (hn:0<n) {a b:List Value} (ha:a.length=m*n) (hb:b.length=m*n) (h:∀ i,i<m->zY a (i*n) n=zY b (i*n) n):a=b:=by
 apply KT;intro j;by_cases hj:j<m*n
 ·have hd:j/n<m:=Nat.div_lt_of_lt_mul (by rw [UP];exact hj);have h1:=Gl (fun l=>l[j%n]?) (h _ hd);simp only [zY,KA,Gr (Gh j hn),Kz] at h1;rw [UP,Ub] at h1;exact h1
 ·rw [JM (by omega),JM (by omega)]
theorem TyEq.array {T e:TypeId} {g:Bool} {n k m:Nat} {G:List Value->Prop} (hn:0<n) (hu:P.underlying T=some (.array m e)) (hag:∀ w,(isAgg T).run P w = .ok true w) (hi:∃ i,P.info? T=some i) (hc:P.cellsOf T=m*n) (ht:TyEq P e g n k G) :
  TyEq P T true (m*n) (k+1) (fun cs=>∀ i,i<m->G (zY cs (i*n) n)) :=
 ⟨hag,hi,hc,fun h=>(by cases h),fun d w a b ha hb ga gb=>by
  obtain⟨ie,hie⟩:=ht.info;have key:∀ is:List Nat,(∀ i∈is,i<m)->∃ r:Bool,(Op.eqItems (d+k) e n a.toArray b.toArray is).run P w = .ok r w/\(r=true↔∀ i∈is,zY a (i*n) n=zY b (i*n) n):=by
   intro is
   induction is with
   | nil=>intro _;exact⟨true,rfl,by simp⟩
   | cons i is ih =>
    intro him;have hi:=him i KC;have hle:i*n+n<=m*n:=(by rw [<- US];exact Kf _ hi);obtain⟨r2,h3,h4⟩:=ih fun j hj=>him j (Ka _ hj);obtain⟨r1,h1,h2⟩:=ht.eq d w (zY a (i*n) n) (zY b (i*n) n) (zdj (by omega)) (zdj (by omega)) (ga i hi) (gb i hi);have p1:=ht.part a.toArray (i*n) (by simp;omega) w;have p2:=ht.part b.toArray (i*n) (by simp;omega) w;have ea:a.toArray.toList=a:=rfl;have eb:b.toArray.toList=b:=rfl;rw [ea] at p1;rw [eb] at p2;simp only [Op.eqItems,UV,p1,p2,Qd,h1]
    cases r1 with
    | true =>
     refine⟨r2,by simpa using h3,?_⟩;rw [h4];have:=h2.1 rfl;simp [this]
    | false =>
     refine⟨false,by simp,?_⟩;simp only [Kw,false_iff];intro h;have:=h2.2 (h i KC)
     cases this
  obtain⟨r,h1,h2⟩:=key (List.range m) fun i hi=>Uq.1 hi;refine⟨r,?_,?_⟩
  ·have:=run_equalIn_array (P:=P) w (d+k) a.toArray b.toArray hu hie;rw [ht.cl] at this;rw [<- UF];exact this.trans h1
  ·rw [h2];exact⟨fun h=>zmX hn ha hb fun i hi=>h i (Uq.2 hi),fun h i _=>by rw [h]⟩⟩
theorem TyEq.int {T:TypeId} {q:IntKind} (hu:P.underlying T=some (.int q)) (hag:∀ w,(isAgg T).run P w = .ok false w) (hi:∃ i,P.info? T=some i) (hc:P.cellsOf T=1):TyEq P T false 1 1 (fun cs=>∃ x,cs=[.int q x]) :=
 ⟨hag,hi,hc,fun _=>rfl,fun d w a b _ _ ⟨x,hx⟩ ⟨y,hy⟩=>by
  subst hx hy;refine⟨decide (x=y),?_,by simp⟩;simp only [vOf,List.headD_cons,Op.equalIn,UV,Uv hu,Qd,Gp,UW];congr 1⟩
theorem TyEq.bool {T:TypeId} (hu:P.underlying T=some .bool) (hag:∀ w,(isAgg T).run P w = .ok false w) (hi:∃ i,P.info? T=some i) (hc:P.cellsOf T=1):TyEq P T false 1 1 (fun cs=>∃ x,cs=[.bool x]) :=
 ⟨hag,hi,hc,fun _=>rfl,fun d w a b _ _ ⟨x,hx⟩ ⟨y,hy⟩=>by
  subst hx hy;refine⟨x == y,?_,by simp⟩;simp only [vOf,List.headD_cons,Op.equalIn,UV,Uv hu,Qd,UW]⟩
end
end Go.Vc
namespace Go.Proofs.YtpalcnbhkigagaaGreatDoor
open Go.Vc Go.RowKit Go.Sei
def zrM (q:IntKind) (cs:List Value):Prop:=∃ x,cs=[.int q x]
def zsp (cs:List Value):Prop:=∃ x,cs=[.bool x]
theorem tU8:TyEq PG 5 false 1 1 (zrM .u8) := .int Tryz.underlying5 (fun w=>Tryz.isAgg5 w) (qI (by kernel_rfl) (by kernel_rfl)).1 (by kernel_rfl)
theorem zr4:TyEq PG 4 false 1 1 zsp := .bool Tryz.underlying4 (fun w=>Tryz.isAgg4 w) (qI (by kernel_rfl) (by kernel_rfl)).1 (by kernel_rfl)
theorem uf {T:TypeId} {F:Array Field} (h:Tryz.prog.underlying T=some (.struct F)):Tryz.prog.underlying T=some (.struct (Tryz.prog.fieldsOf T))/\Tryz.prog.fieldsOf T=F:=by
 have:Tryz.prog.fieldsOf T=F:=by unfold Program.fieldsOf;rw [h]
 exact⟨by rw [this];exact h,this⟩
open Classical in
noncomputable def cdec (p:Prop):Bool:=decide p
theorem zqi {p:Prop} [h:Decidable p]:cdec p=decide p:=by unfold cdec;congr
theorem zcW {p q:Prop} [Decidable q] (h:p↔q):cdec p=decide q:=by
 have:p=q:=propext h;subst this;exact zqi
section
variable {T:TypeId} {n k:Nat} {G:List Value->Prop} (h:TyEq PG T true n k G) (d:Nat) (hd:d+k=10000) (hg:Tryz.prog.eqGuardType Tryz.prog.depth T=false) {a b:List Value} (ha:a.length=n) (hb:b.length=n) (ga:G a) (gb:G b)
include h hd hg ha hb ga gb
omit hg in
theorem equal_ty (w:Wd):(Op.equal T (.agg a.toArray) (.agg b.toArray)).run PG w = .ok (cdec (a=b)) w:=by
 obtain⟨r,h1,h2⟩:=h.eq d w a b ha hb ga gb;have e:r=cdec (a=b):=by
  unfold cdec
  cases r with
  | true=>simp [h2.1 rfl]
  | false =>
   have:¬ a=b:=fun e=>by have:=h2.2 e;cases this
   simp [this]
 rw [hd] at h1;rw [<- e];exact h1
theorem zra (x y:Operand) (w:Wd):(do eqGuard .neq T x y (.agg a.toArray) (.agg b.toArray);binOp .neq T (.agg a.toArray) (.agg b.toArray)).run PG w = .ok (.bool (!cdec (a=b))) w:=by
 have he:=equal_ty h d hd ha hb ga gb w;have h1:(eqGuard .neq T x y (.agg a.toArray) (.agg b.toArray)).run PG w = .ok () w:=by
  simp only [eqGuard,Uy,Kw,Gm,UV,run_program,Qd,hg,Bool.not_false,Gp,UW]
 rw [UV,h1];simp only [Qd,binOp,UV,he,UW]
theorem ziu (x y:Operand) (w:Wd):(do eqGuard .eql T x y (.agg a.toArray) (.agg b.toArray);binOp .eql T (.agg a.toArray) (.agg b.toArray)).run PG w = .ok (.bool (cdec (a=b))) w:=by
 have he:=equal_ty h d hd ha hb ga gb w;have h1:(eqGuard .eql T x y (.agg a.toArray) (.agg b.toArray)).run PG w = .ok () w:=by
  simp only [eqGuard,Uy,Kw,Gm,UV,run_program,Qd,hg,Bool.not_false,Gp,UW]
 rw [UV,h1];simp only [Qd,binOp,UV,he,UW]
end
end Go.Proofs.YtpalcnbhkigagaaGreatDoor
