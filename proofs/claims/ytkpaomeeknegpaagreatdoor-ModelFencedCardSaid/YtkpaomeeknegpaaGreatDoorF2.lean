/- Contracts of functions, and plain facts, for the law that the last text of this claim proves. -/
import Derived.Test.YtkpaomeeknegpaaGreatDoorF1
import Derived.Laws.MakeOwn
import Derived.Laws.BytesArg
import Derived.Laws.Strings
import Derived.Lib.AppendZerosOnto
import Derived.Laws.OwnMore
set_option linter.unusedSimpArgs false
set_option linter.unusedVariables false
namespace Go.Vc
open Go.RowKit
theorem zir {z:Value} (h:0<z.cells.size) (n:Nat):(madeCells z.cells (n*z.cells.size)).toList=zb9 z.cells.toList n:=by
 have:=zms z.cells.toList (by simpa using h) n;unfold madeCells;simpa using Gd Array.toList this
theorem ziq {P:Program} {w:Wd} {t T:TypeId} {iT:TI} {z:List Value} {kl kc:IntKind} (hu:P.underlying t=some (.slice T)) (hT:TIok P T iT) (hz:iT.zero=some z) (hzl:z.length=iT.size) (hp:0<iT.size) (n:Nat) (h1:iT.bytes*n<=281474976710656) (h63:n<=9223372036854775807) {K:Value->Wd->Prop}
  (k:∀ w',w'.heap[w.heap.size]?=some (.cells (zb9 z n).toArray T (0,0))->Bw w w'->w'.heap.size=w.heap.size+1->K (.slice (some ⟨w.heap.size,0,none⟩) n n) w') :
  SatR ((Instr.makeSlice t (.int kl (n:Int)) (.int kc (n:Int))).run P w) K:=by
 obtain⟨⟨inf,hi,hsz,hby,hzz⟩,_⟩:=hT;obtain⟨zv,hzv,hzc⟩:=hzz z hz;have h63':(n:Int)<=9223372036854775807:=by omega
 have hb':(inf.bytes:Int)*(n:Int)<=281474976710656:=by
  have h:((inf.bytes*n:Nat):Int)<=281474976710656:=by rw [hby];omega
  rwa [QD] at h
 have hr:=run_make (P:=P) w t T inf zv hu hi hzv kl kc n n (by omega) (Int.le_refl _) hb' h63';simp only [KI] at hr;have hcs:zv.cells.size=inf.size:=by rw [hsz,<- hzl,<- hzc];simp
 have hm:madeCells zv.cells (n*inf.size)=(zb9 z n).toArray:=by
  have:=zir (z:=zv) (by omega) n;rw [hzc,hcs] at this;rw [<- this]
 rw [hm] at hr;exact SatR.mk hr (k _ (zy w _) ((zba _ _)) (by simp))
theorem zm {P:Program} {w:Wd} {g:Nat} {Te:TypeId} {iT:TI} (hT:TIok P Te iT) {cs:List Value} {t:TypeId} (hg:w.heap[g]?=some (.cells cs.toArray t (0,0))) {o:Nat} {v:Value} (hv:v.cells = #[v]) (hi:iT.size=1) (ho:o<cs.length) (h1:v.oneCell'=true) {K:Wd->Prop}
  (k:∀ w',w'.heap[g]?=some (.cells (cs.set o v).toArray t (0,0))->w.grownBy w' (some g)->w'.heap.size=w.heap.size->K w') :
  SatR ((storeVar Te ⟨g,o,none⟩ v).run P w) fun _ w'=>K w':=by
 refine jZ hT hg (o:=o) (v:=v) (by rw [hv,hi];rfl) (by rw [hv];show o+1<=cs.length;omega) (by rw [hv];simpa using h1) fun w' f gr sz=>k w' ?_ gr sz;rw [f,hv];congr 2;show (cs.take o++[v]++cs.drop (o+1)).toArray=_;rw [Jb,Gi ho];simp
theorem zk {n:Nat} {A B:Wd} {g:Nat} (h:A.grownBy B (some g)) (hn:n<=A.heap.size) (hg:n<=g):Below n A B :=
 ⟨h.os,h.tape,h.output,h.size,fun j hj=>h.block j (nL hj hn) (by simp;omega)⟩
theorem OwnS.lower {α : Type} {E : Enc α} {T B B' cap : Nat} {w : Wd} {p : OA} {l : List α} (h : OwnS E T B w p cap l) (hB : B' ≤ B) : OwnS E T B' w p cap l := by
  obtain ⟨h1, h2⟩ := h
  refine ⟨h1, ?_⟩
  rcases h2 with h2 | ⟨g, cap', cur, h2, hb, qp⟩
  · exact .inl h2
  · exact .inr ⟨g, cap', cur, h2, UI hB hb, qp⟩
theorem zot {P : Program} {w : Wd} {t T ty : TypeId} {iT : TI} {z : Value} (hu : P.underlying t = some (.slice T)) (hT : TIok P T iT) (hz : iT.zero = some [z]) (h1 : z.oneCell' = true) {b o n c : Nat} (hn : 0 < n) {cs : Array Value} {u : TypeId} (hg : w.heap[b]? = some (.cells cs u (0, 0))) (ho : o + n ≤ cs.size) {K : Value → Wd → Prop}
    (k : ∀ w', w'.heap[b]? = some (.cells (cs.toList.take o ++ List.replicate n z ++ cs.toList.drop (o + n)).toArray u (0, 0)) → w.grownBy w' (some b) → w'.heap.size = w.heap.size → K (.tuple #[]) w') :
    SatR ((Builtin.clear_ #[t] ty #[.slice (some ⟨b, o, none⟩) n c]).run P w) K := by
  obtain ⟨⟨inf, hi, _, _, hzz⟩, _⟩ := hT
  obtain ⟨zv, hzv, hzc⟩ := hzz _ hz
  have hv : ∀ w, (zeroValue T).run P w = .ok zv w := fun w => by simp [zeroValue, typeInfo, hi, hzv]
  have hzc2 : zv.cells = #[z] := by rw [← hzc]
  have hrep : (Builtin.zeroCells zv.cells n).toList = List.replicate n z := by
    rw [hzc2]
    simp [Builtin.zeroCells]
    apply List.ext_getElem
    · simp
    · intro i h1 h2
      simp [Nat.mod_one]
  have hst := Qa P b o u (List.replicate n z) 0 cs w hg (by simpa using ho) (fun v hv' => by rw [Jt hv']; exact h1)
  refine SatR.mk (v := .tuple #[]) (w' := w.setRow b (cs.toList.take o ++ List.replicate n z ++ cs.toList.drop (o + n)).toArray) ?_ (k _ (zn hg) (jC w b _) (by simp))
  obtain ⟨m, rfl⟩ : ∃ m, n = m + 1 := ⟨n - 1, by omega⟩
  have hrep' : Builtin.zeroCells zv.cells (m + 1) = (List.replicate (m + 1) z).toArray := by rw [← hrep]
  simp only [UH, JM] at hst
  simp [Builtin.clear_, Uo hu, hv, hrep', hst]
theorem zdh {α : Type} {E : Enc α} {P : Program} {w : Wd} {t T : TypeId} {iT : TI} {z : List Value} {kl kc : IntKind} (hu : P.underlying t = some (.slice T)) (hT : TIok P T iT) (hz : iT.zero = some z) (hzl : z.length = iT.size) (hs : iT.size = E.sz) (n : Nat) (h1 : iT.bytes * n ≤ 281474976710656) (h63 : n ≤ maxLen) {K : Value → Wd → Prop}
    (k : ∀ w', OwnS E T w.heap.size w' (some ⟨w.heap.size, 0, none⟩) n [] → Below w.heap.size w w' → w'.heap.size = w.heap.size + 1 → K (.slice (some ⟨w.heap.size, 0, none⟩) 0 n) w') :
    SatR ((Instr.makeSlice t (.int kl 0) (.int kc (n : Int))).run P w) K := by
  obtain ⟨⟨inf, hi, hsz, hby, hzz⟩, _⟩ := hT
  obtain ⟨zv, hzv, hzc⟩ := hzz z hz
  have h63' : (n : Int) ≤ 9223372036854775807 := by unfold maxLen at h63; omega
  have hb' : (inf.bytes : Int) * (n : Int) ≤ 281474976710656 := by
    have h : ((inf.bytes * n : Nat) : Int) ≤ 281474976710656 := by rw [hby]; omega
    rwa [QD] at h
  have hr := run_make (P := P) w t T inf zv hu hi hzv kl kc 0 n (by omega) (by omega) hb' h63'
  simp only [KI, Int.toNat_zero] at hr
  have hcs : zv.cells.size = inf.size := by rw [hsz, ← hzl, ← hzc]; simp
  have hp : 0 < zv.cells.size := by rw [hcs, hsz, hs]; exact E.pos
  have hm : (madeCells zv.cells (n * inf.size)).size = n * E.sz := by
    have := Gd List.length (zir (z := zv) hp n)
    rw [zgo, hcs] at this
    rw [← hs, ← hsz]
    simpa [hcs] using this
  refine SatR.mk hr (k _ ?_ ((UW _ _).alloc (UR _) _) (by simp))
  exact World.ownsRow_made w _ n (UR _) h63 hm
structure StepG (n0 : Nat) (Ow F : Nat → Prop) (A B : Wd) : Prop where
  os : B.os = A.os
  tape : B.tape = A.tape
  output : B.output = A.output
  size : A.heap.size ≤ B.heap.size
  same : ∀ k, k < A.heap.size → ((k < n0 ∧ ¬ Ow k) ∨ F k) → B.heap[k]? = A.heap[k]?
theorem StepG.mono {n0 n1 : Nat} {Ow F : Nat → Prop} {A B : Wd} (h : StepG n0 Ow F A B) (hn : n1 ≤ n0) : StepG n1 Ow F A B :=
  ⟨h.os, h.tape, h.output, h.size, fun k hk hf => h.same k hk (hf.imp (fun h => ⟨KD h.1 hn, h.2⟩) id)⟩
theorem StepG.below {n0 : Nat} {Ow F : Nat → Prop} {A B : Wd} (h : Below A.heap.size A B) : StepG n0 Ow F A B :=
  ⟨h.os, h.tape, h.output, h.size, fun k hk _ => h.block k hk⟩
theorem StepG.trans {n0 : Nat} {Ow F : Nat → Prop} {A B C : Wd} (h : StepG n0 Ow F A B) (k : StepG n0 Ow F B C) : StepG n0 Ow F A C :=
  ⟨k.os.trans h.os, k.tape.trans h.tape, k.output.trans h.output, UI h.size k.size, fun i hi hf => (k.same i (KD hi h.size) hf).trans (h.same i hi hf)⟩
theorem StepG.put {n0 : Nat} {Ow F : Nat → Prop} {A : Wd} {l : Nat} (h : n0 ≤ l) (hf : ¬ F l) (o : Obj) : StepG n0 Ow F A (A.putObj l o) :=
  ⟨rfl, rfl, rfl, by simp [World.putObj], fun k _ hk => zj (fun e => by subst e; rcases hk with hk | hk; omega; exact hf hk)⟩
theorem StepG.grown {n0 : Nat} {Ow F : Nat → Prop} {A B : Wd} {l : Nat} (h : A.grownBy B (some l)) (hl : n0 ≤ l ∨ Ow l) (hf : ¬ F l) : StepG n0 Ow F A B :=
  ⟨h.os, h.tape, h.output, h.size, fun k hk hf2 => h.block k hk (fun e => by
    have e : k = l := by simpa using e
    subst e
    rcases hf2 with h2 | h2
    · rcases hl with hl | hl
      · omega
      · exact h2.2 hl
    · exact hf h2)⟩
structure JG {σ : Type} (n0 : Nat) (Ow : Nat → Prop) (J : σ → (Nat → Prop) → Wd → Prop) : Prop where
  step : ∀ s F A B, J s F A → StepG n0 Ow F A B → J s F B
  lt : ∀ s F A k, J s F A → F k → k < A.heap.size ∧ ¬ Ow k
theorem JG.mono {σ : Type} {n0 n1 : Nat} {Ow : Nat → Prop} {J : σ → (Nat → Prop) → Wd → Prop} (h : JG n0 Ow J) (hn : n0 ≤ n1) : JG n1 Ow J :=
  ⟨fun s F A B hj hs => h.step s F A B hj (hs.mono hn), h.lt⟩
structure KeepsG (F F' : Nat → Prop) (A B : Wd) : Prop where
  os : B.os = A.os
  tape : B.tape = A.tape
  output : B.output = A.output
  size : A.heap.size ≤ B.heap.size
  same : ∀ k, k < A.heap.size → ¬ F k → B.heap[k]? = A.heap[k]?
  fp : ∀ k, F' k → F k ∨ A.heap.size ≤ k
theorem KeepsG.refl (F : Nat → Prop) (A : Wd) : KeepsG F F A A := ⟨rfl, rfl, rfl, UR _, fun _ _ _ => rfl, fun _ h => .inl h⟩
theorem KeepsG.trans {F F' F'' : Nat → Prop} {A B C : Wd} (h : KeepsG F F' A B) (k : KeepsG F' F'' B C) : KeepsG F F'' A C :=
  ⟨k.os.trans h.os, k.tape.trans h.tape, k.output.trans h.output, UI h.size k.size,
   fun i hi hf => (k.same i (KD hi h.size) (fun hb => by rcases h.fp i hb with h1 | h1; exact hf h1; omega)).trans (h.same i hi hf),
   fun i hi => Or.elim (k.fp i hi) (fun h1 => h.fp i h1) fun h1 => .inr (UI h.size h1)⟩
theorem KeepsG.weak {F F' G : Nat → Prop} {A B : Wd} (h : KeepsG F F' A B) (hF : ∀ k, F k → G k) : KeepsG G F' A B :=
  ⟨h.os, h.tape, h.output, h.size, fun k hk hg => h.same k hk fun hf => hg (hF k hf), fun k hk => (h.fp k hk).imp (hF k) id⟩
theorem KeepsG.below {F F' : Nat → Prop} {A B : Wd} (h : Below A.heap.size A B) (hf : ∀ k, F' k → F k ∨ A.heap.size ≤ k) : KeepsG F F' A B :=
  ⟨h.os, h.tape, h.output, h.size, fun k hk _ => h.block k hk, hf⟩
theorem KeepsG.grown {F : Nat → Prop} {A B : Wd} {g : Nat} (h : A.grownBy B (some g)) (hg : F g) : KeepsG F F A B :=
  ⟨h.os, h.tape, h.output, h.size, fun k hk hf => h.block k hk (fun e => hf (by cases e; exact hg)), fun k h => .inl h⟩
def ziJ {α : Type} (P : Program) (g : Nat) (lb : List Value) (xs : List α) (W0 : Wd) (Rd Ow : Nat → Prop) (St : List α → List Value → Wd → Prop) : Prop :=
  ∀ (l : Nat) (F0 : Nat → Prop) (J Jx : List α → (Nat → Prop) → Wd → Prop) (W : Wd), W0.heap.size ≤ W.heap.size → (∀ k, Rd k ∨ Ow k → W.heap[k]? = W0.heap[k]?) → (∀ k, Rd k → ¬ F0 k) →
    JG W.heap.size Ow J → JG W.heap.size Ow Jx →
    (∀ pre x vs F W1, J pre F W1 → St (pre ++ [x]) vs W1 → (pre ++ [x]) <+: xs → YieldR P l vs.toArray W1 fun v W2 =>
      (v = .bool true ∧ ∃ F', J (pre ++ [x]) F' W2 ∧ KeepsG F F' W1 W2) ∨ (v = .bool false ∧ ∃ F', Jx (pre ++ [x]) F' W2)) →
    J [] F0 W →
    Calls P g (.func (.yield l) #[] #[] :: lb).toArray W fun e W' => (∃ v, e = .returned v) ∧ ((∃ F', J xs F' W') ∨ ∃ pre F', pre <+: xs ∧ Jx pre F' W')
def zsG {α : Type} (F : Nat → Prop) (J : List α → (Nat → Prop) → Wd → Prop) (Jx : Exit → List α → (Nat → Prop) → Wd → Prop) (xs : List α) (A : Wd) : Exit → Env → Wd → Prop
  | .normal, _, B => ∃ F', J xs F' B ∧ KeepsG F F' A B
  | .ret, _, B => ∃ F', Jx .ret xs F' B ∧ KeepsG F F' A B
  | .exit id, _, B => ∃ F', Jx (.exit id) xs F' B ∧ KeepsG F F' A B
  | _, _, _ => False
theorem zdb {α : Type} {S : Sig} (hS : SigOk S) (hr : S.r = none) {f : Operand} {ps : Array Tmp} {assign body : Code} {E : Env} {w : Wd} {Q : Exit → Env → Wd → Prop}
    {gf : Nat} {lb : Array Value} (hg : opd E f = some (.func (.func gf) #[] lb)) (hok : jP S gf = true)
    {xs : List α} {W0 : Wd} {Rd Ow : Nat → Prop} {St : List α → List Value → Wd → Prop} (hI : ziJ S.P gf lb.toList xs W0 Rd Ow St) (hW0 : W0.heap.size ≤ w.heap.size) (hRd : ∀ k, Rd k ∨ Ow k → k < W0.heap.size ∧ w.heap[k]? = W0.heap[k]?)
    (hps : ∀ pre vs W, St pre vs W → vs.length = ps.size) (hpn : ∀ p ∈ ps.toList, p < S.n)
    (F0 : Nat → Prop) (J : List α → (Nat → Prop) → Wd → Prop) (Jx : Exit → List α → (Nat → Prop) → Wd → Prop) (hRF : ∀ k, Rd k → ¬ F0 k)
    (hJ : JG w.heap.size Ow J) (hJx : ∀ ex, JG w.heap.size Ow (Jx ex)) (h0 : J [] F0 w)
    (hround : ∀ (l : Nat) (pre : List α) (x : α) (vs : List Value) (F : Nat → Prop) (W : Wd), w.heap.size ≤ l → (pre ++ [x]) <+: xs → J pre F W → St (pre ++ [x]) vs W → ¬ F l → (∃ lo, W.heap[l]? = some (.loop lo)) →
      wpE (sr S l) assign ⟨zgx ps.toList vs E.vs, []⟩ W fun ex E1 W1 => ex = .normal ∧ ∃ F1, KeepsG F F1 W W1 ∧ J pre F1 W1 ∧
        ∀ o W2, W2 = W1.putObj l o → J pre F1 W2 → wpE (sr S l) body E1 W2 (zsG F1 J Jx (pre ++ [x]) W2))
    (hdone : ∀ D F W, w.heap.size ≤ D → ¬ F D → J xs F W → W.heap[D]? = some (.deferred (some [])) → Q .normal ⟨E.vs, { target := .collected D, args := #[] } :: E.ds⟩ W)
    (hstop : ∀ D ex pre F W, w.heap.size ≤ D → ¬ F D → pre <+: xs → Jx ex pre F W → W.heap[D]? = some (.deferred (some [])) → Q ex ⟨E.vs, { target := .collected D, args := #[] } :: E.ds⟩ W) :
    zjE S f ps assign body E w Q := by
  intro a ha
  have hcall : ∀ args w, (callFunc gf args).run S.P w = .ok (.enter gf args) w := by
    simp only [jP, Qe, UX, UY] at hok
    exact fun args w => hS.call gf hok.1.1 hok.1.2 hok.2 args w
  refine wpIn_rangeFunc ?_
  intro fn hfn
  have hro : (FR S.r).round = none := hr
  rw [hro]
  obtain ⟨rec, hrec⟩ : ∃ rec : LoopState → Option Code → Loop, rec = fun st pe => { state := st, pending := pe, fn, tmps := a.tmps, params := ps, assign, body, defers := w.heap.size } := ⟨_, rfl⟩
  obtain ⟨W1, hW1⟩ : ∃ W1, (w.alloc (.deferred (some []))).alloc (.loop (rec .ready none)) = W1 := ⟨_, rfl⟩
  have hK0 := zy w (.deferred (some []))
  have hK1 : W1.heap[w.heap.size]? = some (.deferred (some [])) := by rw [← hW1]; exact qJ _ hK0
  have hL1 : W1.heap[w.heap.size + 1]? = some (.loop (rec .ready none)) := by
    rw [← hW1]; have := zy (w.alloc (.deferred (some []))) (.loop (rec .ready none)); rwa [World.size_alloc] at this
  have hs1 : W1.heap.size = w.heap.size + 2 := by rw [← hW1]; simp
  have hst1 : Below w.heap.size w W1 := by
    rw [← hW1]; exact ((UW _ w).alloc (UR _) _).alloc (by simp) _
  have hJ1 := hJ.step _ _ _ _ h0 (.below hst1)
  have hOl : ∀ k, w.heap.size ≤ k → ¬ Ow k := fun k hk ho => by have := (hRd k (.inr ho)).1; omega
  have hFl : ∀ k, F0 k → k < w.heap.size := fun k hk => (hJ.lt _ _ _ k h0 hk).1
  refine ⟨w.heap.size + 1, [{ target := .collected w.heap.size, args := #[] }], W1, { target := .fn (.func gf) lb, args := #[.func (.yield (w.heap.size + 1)) #[] #[]] }, W1, gf,
    #[.func (.yield (w.heap.size + 1)) #[] #[]] ++ lb, W1, ?_, ?_, fun _ _ => trivial, ?_, fun h => by simp [FR] at h, ?_⟩
  · rw [← hW1, hrec]; exact Kn _ _ _ _ _
  · have hg' := ha.eval hg
    simp only [resolve, hg']
    simp [go_sem]
  · simp [invoke, go_sem, hcall]
  · have hargs : #[Value.func (.yield (w.heap.size + 1)) #[] #[]] ++ lb = (Value.func (.yield (w.heap.size + 1)) #[] #[] :: lb.toList).toArray := by rw [← Qb]; simp
    rw [hargs]
    have book : ∀ {σ : Type} {K : σ → (Nat → Prop) → Wd → Prop} (lo : Loop), JG w.heap.size Ow K → JG W1.heap.size Ow (fun s F W => K s F W ∧ W.heap[w.heap.size + 1]? = some (.loop lo) ∧ W.heap[w.heap.size]? = some (.deferred (some [])) ∧ ¬ F (w.heap.size + 1) ∧ ¬ F w.heap.size) := by
      intro σ K lo hK
      refine ⟨fun s F A B ⟨hk, hl, hd, hf1, hf2⟩ hs => ?_, fun s F A k ⟨hk, _⟩ hf => hK.lt s F A k hk hf⟩
      exact ⟨hK.step s F A B hk (hs.mono (by omega)), (hs.same _ (hlt hl) (.inl ⟨by omega, hOl _ (by omega)⟩)).trans hl, (hs.same _ (hlt hd) (.inl ⟨by omega, hOl _ (by omega)⟩)).trans hd, hf1, hf2⟩
    have hcalls := hI (w.heap.size + 1) F0 (fun pre F W => J pre F W ∧ W.heap[w.heap.size + 1]? = some (.loop (rec .ready none)) ∧ W.heap[w.heap.size]? = some (.deferred (some [])) ∧ ¬ F (w.heap.size + 1) ∧ ¬ F w.heap.size)
      (fun pre F W => ∃ ex c, ((ex = .ret ∧ c = .ret) ∨ ∃ id, ex = .exit id ∧ c = .exit id) ∧ Jx ex pre F W ∧ W.heap[w.heap.size + 1]? = some (.loop (rec .done (some c))) ∧ W.heap[w.heap.size]? = some (.deferred (some [])) ∧ ¬ F (w.heap.size + 1) ∧ ¬ F w.heap.size)
      W1 (by omega) (fun k hk => by
        obtain ⟨h1, h2⟩ := hRd k hk
        rw [← h2]
        exact hst1.block k (by omega)) hRF (book _ hJ)
      ⟨fun s F A B ⟨ex, c, hc, hrest⟩ hs => ⟨ex, c, hc, (book (rec .done (some c)) (hJx ex)).step s F A B hrest hs⟩,
       fun s F A k ⟨ex, c, hc, hrest⟩ hf => (hJx ex).lt s F A k hrest.1 hf⟩ ?_ ⟨hJ1, hL1, hK1, fun h => by have := hFl _ h; omega, fun h => by have := hFl _ h; omega⟩
    · refine zcU (hcalls.mono ?_)
      rintro e W2 ⟨⟨v, rfl⟩, (⟨F, hj, hl, hk, hf1, hf2⟩ | ⟨pre, F, hpre, ex, c, hc, hj, hl, hk, hf1, hf2⟩)⟩
      · have hj2 := hJ.step _ _ _ _ hj (StepG.put (Ow := Ow) (o := .loop (rec .exhausted none)) (n0 := w.heap.size) (l := w.heap.size + 1) (by omega) hf1)
        refine ⟨none, _, by have := UV (P := S.P) hl (by rw [hrec]; simp); rw [hrec] at this; exact this, ?_⟩
        rw [hrec] at hj2
        exact ⟨⟨E.vs, { target := .collected w.heap.size, args := #[] } :: E.ds⟩, ⟨ha.size, by simp [ha.defers], ha.val⟩, hdone w.heap.size F _ (UR _) hf2 hj2 ((zj (by omega)).trans hk)⟩
      · have hj2 := (hJx ex).step _ _ _ _ hj (StepG.put (Ow := Ow) (o := .loop (rec .exhausted (some c))) (n0 := w.heap.size) (l := w.heap.size + 1) (by omega) hf1)
        refine ⟨some c, _, by have := UV (P := S.P) hl (by rw [hrec]; simp); rw [hrec] at this; exact this, ?_⟩
        rw [hrec] at hj2
        have hq := hstop w.heap.size ex pre F _ (UR _) hf2 hpre hj2 ((zj (by omega)).trans hk)
        rcases hc with ⟨rfl, rfl⟩ | ⟨id, rfl, rfl⟩
        · exact wpIn_ret ⟨⟨E.vs, { target := .collected w.heap.size, args := #[] } :: E.ds⟩, ⟨ha.size, by simp [ha.defers], ha.val⟩, hq⟩
        · exact wpIn_exit ⟨⟨E.vs, { target := .collected w.heap.size, args := #[] } :: E.ds⟩, ⟨ha.size, by simp [ha.defers], ha.val⟩, hq⟩
    · rintro pre x vs F W ⟨hj, hl, hk, hf1, hf2⟩ hst0 hpre
      have hy := run_yield (P := S.P) (args := vs.toArray) hl (by rw [hrec]; simpa using hps _ _ _ hst0)
      rw [hrec] at hy
      refine ⟨fn, _, assign, body, hy, zb0 (r := none) (n := NN) (roundIn_of_wpIn (F := FR none) trivial ?_)⟩
      have hag : Agrees (sr S (w.heap.size + 1)) { tmps := (ps.zip vs.toArray).foldl (fun t (p, v) => t.setIfInBounds p v) a.tmps, defers := [] } ⟨zgx ps.toList vs E.vs, []⟩ := by
        have h1 : Agrees (sr S (w.heap.size + 1)) { a with defers := [] } ⟨E.vs, []⟩ := ⟨ha.size, rfl, ha.val⟩
        have h2 := zbZ ps.toList vs _ _ h1 hpn
        have e : (ps.zip vs.toArray).foldl (fun t (p, v) => t.setIfInBounds p v) a.tmps = (ps.toList.zip vs).foldl (fun t (p, v) => t.setIfInBounds p v) a.tmps := by
          rw [← Ko]; simp
        rw [e]; exact h2
      have hw := qV (zh6 hS _) assign _ _ W _ hag (hround (w.heap.size + 1) pre x vs F W (by omega) hpre hj hst0 hf1 ⟨_, hl⟩)
      refine Gb hw ?_
      rintro ex a1 Wa ⟨E1, hag1, rfl, F1, hk1, hj1, hbody⟩
      have hla := (hk1.same _ (hlt hl) hf1).trans hl
      have hka := (hk1.same _ (hlt hk) hf2).trans hk
      have hfa1 : ¬ F1 (w.heap.size + 1) := fun h => by rcases hk1.fp _ h with h | h; exact hf1 h; have := hlt hl; omega
      have hfa2 : ¬ F1 w.heap.size := fun h => by rcases hk1.fp _ h with h | h; exact hf2 h; have := hlt hk; omega
      refine ⟨_, run_beginRound hla (by rw [hrec]), ?_⟩
      have hst : StepG w.heap.size Ow F1 Wa (Wa.putObj (w.heap.size + 1) (.loop { rec .ready none with state := .busy })) := .put (by omega) hfa1 _
      have hj2 := hJ.step _ _ _ _ hj1 hst
      have hw2 := qV (zh6 hS _) body _ _ _ _ hag1 (hbody _ _ rfl hj2)
      refine Gb hw2 ?_
      have hl2 : (Wa.putObj (w.heap.size + 1) (.loop { rec .ready none with state := .busy })).heap[w.heap.size + 1]? = some (.loop { rec .ready none with state := .busy }) := zcv hla
      have hk2 : (Wa.putObj (w.heap.size + 1) (.loop { rec .ready none with state := .busy })).heap[w.heap.size]? = some (.deferred (some [])) := (zj (by omega)).trans hka
      have fin : ∀ (jump : Option Code) (F3 : Nat → Prop) (W3 : Wd), KeepsG F1 F3 (Wa.putObj (w.heap.size + 1) (.loop { rec .ready none with state := .busy })) W3 →
          (Instr.endRound (w.heap.size + 1) jump).run S.P W3 = .ok (.bool jump.isNone) (W3.putObj (w.heap.size + 1) (.loop (rec (if jump.isNone then .ready else .done) jump))) ∧
          (W3.putObj (w.heap.size + 1) (.loop (rec (if jump.isNone then .ready else .done) jump))).heap[w.heap.size + 1]? = some (.loop (rec (if jump.isNone then .ready else .done) jump)) ∧
          (W3.putObj (w.heap.size + 1) (.loop (rec (if jump.isNone then .ready else .done) jump))).heap[w.heap.size]? = some (.deferred (some [])) ∧
          StepG w.heap.size Ow F3 W3 (W3.putObj (w.heap.size + 1) (.loop (rec (if jump.isNone then .ready else .done) jump))) ∧ ¬ F3 (w.heap.size + 1) ∧ ¬ F3 w.heap.size := fun jump F3 W3 hk3 => by
        have hl3 := (hk3.same _ (hlt hl2) hfa1).trans hl2
        have hd3 := (hk3.same _ (hlt hk2) hfa2).trans hk2
        have hf31 : ¬ F3 (w.heap.size + 1) := fun h => by rcases hk3.fp _ h with h | h; exact hfa1 h; have := hlt hl2; omega
        have hf32 : ¬ F3 w.heap.size := fun h => by rcases hk3.fp _ h with h | h; exact hfa2 h; have := hlt hk2; omega
        have := run_endRound (P := S.P) jump hl3
        rw [hrec] at this ⊢
        exact ⟨this, zcv hl3, (zj (by omega)).trans hd3, .put (by omega) hf31 _, hf31, hf32⟩
      rintro e a3 W3 ⟨E3, _, hq⟩
      cases e with
      | normal =>
        obtain ⟨F3, hj3, hk3⟩ := hq
        obtain ⟨hr3, hl4, hk4, hs3, hf31, hf32⟩ := fin none F3 W3 hk3
        have hj4 := hJ.step _ _ _ _ hj3 hs3
        refine ⟨_, _, hr3, .inl ⟨rfl, F3, ⟨hj4, hl4, hk4, hf31, hf32⟩, ?_⟩⟩
        refine ⟨hs3.os.trans (hk3.os.trans hk1.os), hs3.tape.trans (hk3.tape.trans hk1.tape), hs3.output.trans (hk3.output.trans hk1.output), ?_, fun k hk5 hf5 => ?_, fun k hk5 => ?_⟩
        · have h1 := hk1.size; have h2 := hst.size; have h3 := hk3.size; have h4 := hs3.size; omega
        · by_cases hkl : k = w.heap.size + 1
          · subst hkl; rw [hl4, hl]; rfl
          · have h1 : ¬ F1 k := fun h => by rcases hk1.fp _ h with h | h; exact hf5 h; omega
            have h2 := hk1.size; have h3 := hst.size
            rw [zj hkl, hk3.same k (by omega) h1, zj hkl]
            exact hk1.same k hk5 hf5
        · rcases hk3.fp _ hk5 with h2 | h2
          · exact hk1.fp _ h2
          · have h3 := hk1.size; have h4 := hst.size; exact .inr (by omega)
      | ret =>
        obtain ⟨F3, hj3, hk3⟩ := hq
        obtain ⟨hr3, hl4, hk4, hs3, hf31, hf32⟩ := fin (some .ret) F3 W3 hk3
        have hj4 := (hJx .ret).step _ _ _ _ hj3 hs3
        exact ⟨_, _, hr3, .inr ⟨rfl, F3, .ret, .ret, .inl ⟨rfl, rfl⟩, hj4, hl4, hk4, hf31, hf32⟩⟩
      | exit id =>
        obtain ⟨F3, hj3, hk3⟩ := hq
        obtain ⟨hr3, hl4, hk4, hs3, hf31, hf32⟩ := fin (some (.exit id)) F3 W3 hk3
        have hj4 := (hJx (.exit id)).step _ _ _ _ hj3 hs3
        exact ⟨_, _, hr3, .inr ⟨rfl, F3, .exit id, .exit id, .inr ⟨id, rfl, rfl⟩, hj4, hl4, hk4, hf31, hf32⟩⟩
      | goto t => exact hq.elim
      | panic ch => exact hq.elim
      | outgrown => exact hq.elim
end Go.Vc
namespace Go.Proofs.YtkpaomeeknegpaaGreatDoor
open Go.Vc Go.RowKit Go.Sei
def s64 (n:Nat):Value := .int .u64 (n:Nat)
def s32 (n:Nat):Value := .int .u32 (n:Nat)
theorem bvN {a:Nat} (h:a<2^64):(BitVec.ofInt 64 (a:Int)).toNat=a:=by
 rw [Kq];have:((a:Int)%((2^64:Nat):Int))=(a:Int):=Int.emod_eq_of_lt (by omega) (by omega);rw [this];rfl
theorem w64 {a:Int} (h:0<=a/\a<=18446744073709551615):IntKind.u64.wrap a=a:=zaQ h
theorem jY {a b:Nat} (ha:a<2^64) (hb:b<2^64):IntKind.u64.wrap ((BitVec.ofInt IntKind.u64.bits (a:Int)&&&BitVec.ofInt IntKind.u64.bits (b:Int)).toNat:Int)=((a&&&b:Nat):Int):=by
 show IntKind.u64.wrap ((BitVec.ofInt 64 (a:Int)&&&BitVec.ofInt 64 (b:Int)).toNat:Int)=_;rw [Qd,bvN ha,bvN hb];have:a&&&b<=a:=QT;exact w64 (by omega)
theorem zaf {a b:Nat} (ha:a<2^64) (hb:b<2^64):IntKind.u64.wrap ((BitVec.ofInt IntKind.u64.bits (a:Int)|||BitVec.ofInt IntKind.u64.bits (b:Int)).toNat:Int)=((a|||b:Nat):Int):=by
 show IntKind.u64.wrap ((BitVec.ofInt 64 (a:Int)|||BitVec.ofInt 64 (b:Int)).toNat:Int)=_;rw [BitVec.toNat_or,bvN ha,bvN hb];have:a|||b<2^64:=KV ha hb;exact w64 (by omega)
def qP (a b:Nat):Nat:=a&&&(18446744073709551615-b)
theorem zck {a b:Nat} (ha:a<2^64) (hb:b<2^64):IntKind.u64.wrap ((BitVec.ofInt IntKind.u64.bits (a:Int) &&& ~~~ BitVec.ofInt IntKind.u64.bits (b:Int)).toNat:Int)=((qP a b:Nat):Int):=by
 show IntKind.u64.wrap ((BitVec.ofInt 64 (a:Int) &&& ~~~ BitVec.ofInt 64 (b:Int)).toNat:Int)=_;rw [Qd,BitVec.toNat_not,bvN ha,bvN hb];have e:2^64-1-b=18446744073709551615-b:=by omega
 rw [e];have:a&&&(18446744073709551615-b)<=a:=QT;unfold qP;exact w64 (by omega)
theorem zag {a b:Nat} (ha:a<2^64):qP a b<2^64:=by
 have:qP a b<=a:=QT;omega
theorem zaO {a b i:Nat} (hb:b<2^64) (hi:i<64):(qP a b).testBit i=(a.testBit i && !b.testBit i):=by
 unfold qP;rw [QX,show 18446744073709551615-b=2^64-(b+1) by omega,Nat.testBit_two_pow_sub_succ hb];simp [hi]
theorem jX {e:Nat} (he:e<64):IntKind.u64.wrap ((1:Int)*2^(min (Int.toNat (e:Int)) IntKind.u64.bits))=((2^e:Nat):Int):=by
 have h64:2^e<2^64:=Kd (by decide) he;have e1:min (Int.toNat (e:Int)) IntKind.u64.bits=e:=by
  rw [KI];show min e 64=_;omega
 rw [e1,Int.one_mul];have e2:(2:Int)^e=((2^e:Nat):Int):=by simp
 rw [e2];exact w64 ⟨Int.natCast_nonneg _,Int.ofNat_le.2 (show 2^e<=18446744073709551615 by omega)⟩
theorem zf3 {a k:Nat} (hk:k<=64):((a:Nat):Int).fdiv (2^(min (Int.toNat (k:Int)) IntKind.u64.bits))=((a/2^k:Nat):Int):=by
 rw [KI,show min k IntKind.u64.bits=k from QV hk,Jk _ (Int.pow_nonneg (by decide)),Int.natCast_ediv,Int.natCast_pow];rfl
theorem zjz {a k:Nat}:(a/2^k)&&&1=if a.testBit k then 1 else 0:=by
 rw [KB,Nat.testBit_eq_decide_div_mod_eq];by_cases h:a/2^k%2=1
 ·rw [h];rfl
 ·rw [Gh (by simpa using h)];omega
theorem zZ {k:Nat} (h:k<64):2^k<2^64:=Kd (by decide) h
theorem w32 {a:Int} (h:0<=a/\a<=4294967295):IntKind.u32.wrap a=a:=by
 unfold IntKind.wrap;simp only [IntKind.bits,IntKind.signed,Ue,Kr,Ge];omega
theorem znr {a:Nat} (h:a<2^32):(BitVec.ofInt 32 (a:Int)).toNat=a:=by
 rw [Kq];have:((a:Int)%((2^32:Nat):Int))=(a:Int):=Int.emod_eq_of_lt (by omega) (by omega);rw [this];rfl
theorem zmu {a b:Nat} (ha:a<2^32) (hb:b<2^32):IntKind.u32.wrap ((BitVec.ofInt IntKind.u32.bits (a:Int)&&&BitVec.ofInt IntKind.u32.bits (b:Int)).toNat:Int)=((a&&&b:Nat):Int):=by
 show IntKind.u32.wrap ((BitVec.ofInt 32 (a:Int)&&&BitVec.ofInt 32 (b:Int)).toNat:Int)=_;rw [Qd,znr ha,znr hb];have:a&&&b<=a:=QT;exact w32 (by omega)
theorem ze4 {a b:Nat} (ha:a<2^32) (hb:b<2^32):IntKind.u32.wrap ((BitVec.ofInt IntKind.u32.bits (a:Int)|||BitVec.ofInt IntKind.u32.bits (b:Int)).toNat:Int)=((a|||b:Nat):Int):=by
 show IntKind.u32.wrap ((BitVec.ofInt 32 (a:Int)|||BitVec.ofInt 32 (b:Int)).toNat:Int)=_;rw [BitVec.toNat_or,znr ha,znr hb];have:a|||b<2^32:=KV ha hb;exact w32 (by omega)
theorem zf4 {e:Nat} (he:e<32):IntKind.u32.wrap ((1:Int)*2^(min (Int.toNat (e:Int)) IntKind.u32.bits))=((2^e:Nat):Int):=by
 have h64:2^e<2^32:=Kd (by decide) he;have e1:min (Int.toNat (e:Int)) IntKind.u32.bits=e:=by
  rw [KI];show min e 32=_;omega
 rw [e1,Int.one_mul];have e2:(2:Int)^e=((2^e:Nat):Int):=by simp
 rw [e2];exact w32 ⟨Int.natCast_nonneg _,Int.ofNat_le.2 (show 2^e<=4294967295 by omega)⟩
def zh0:List UInt8:=[0,1,56,2,57,49,28,3,61,58,42,50,38,29,17,4,62,47,59,36,45,43,51,22,53,39,33,30,24,18,12,5,63,55,48,27,60,41,37,16,46,35,44,21,52,32,23,11,54,26,40,15,34,20,31,10,25,14,19,9,13,8,7,6]
def zh1:List UInt8:=[0,1,28,2,29,14,24,3,30,22,20,15,25,17,4,8,31,27,13,23,21,19,16,7,26,12,18,6,11,5,10,9]
def Tz64M (X:Wd):Prop:=zI X ⟨1,0,none⟩ (zh0.map u8)
def Tz32M (X:Wd):Prop:=zI X ⟨2,0,none⟩ (zh1.map u8)
theorem Tz64M.below {w w2:Wd} (h:Tz64M w) (hb:Bw w w2):Tz64M w2:=zr hb h
theorem Tz32M.below {w w2:Wd} (h:Tz32M w) (hb:Bw w w2):Tz32M w2:=zr hb h
theorem zoR {k:Nat} (hk:k<64):2^k*285870213051353865%18446744073709551616/2^58<64/\zh0[2^k*285870213051353865%18446744073709551616/2^58]?=some (UInt8.ofNat k):=by
 have h:(List.range 64).all (fun k=>decide (2^k*285870213051353865%18446744073709551616/2^58<64)&&decide (zh0[2^k*285870213051353865%18446744073709551616/2^58]?=some (UInt8.ofNat k)))=true:=by kernel_rfl
 have h1:=Qg.1 h k (Uj.2 hk);rw [bAT,dE,dE] at h1;exact h1
theorem zoT {k:Nat} (hk:k<32):2^k*125613361%4294967296/2^27<32/\zh1[2^k*125613361%4294967296/2^27]?=some (UInt8.ofNat k):=by
 have h:(List.range 32).all (fun k=>decide (2^k*125613361%4294967296/2^27<32)&&decide (zh1[2^k*125613361%4294967296/2^27]?=some (UInt8.ofNat k)))=true:=by kernel_rfl
 have h1:=Qg.1 h k (Uj.2 hk);rw [bAT,dE,dE] at h1;exact h1
theorem zoS {s:Nat} {w:Wd} (hT:Tz64M w) (h0:s≠0) (h:s<2^64):Calls PG 158 #[s64 s] w fun e w'=>e = .returned (i64 (ctz s:Nat))/\w=w':=by
 refine zF 14 [s64 s] Tryz.func158 ?_;obtain⟨_,_,h2,h3⟩:=jO h0 h;have hp:=zZ h3;obtain⟨t1,t2⟩:=zoR h3;refine brN (Uc (fun e=>h0 (by omega))) ⟨((2^64-s:Nat):Int),by unfold IntKind.wrap;simp only [IntKind.bits,IntKind.signed,Ue,Kr,Ge];omega,?_⟩;refine⟨((2^ctz s:Nat):Int),(jY (a:=s) (b:=2^64-s) h (by omega)).trans (by rw [h2]),?_⟩;refine⟨((2^ctz s*285870213051353865%18446744073709551616:Nat):Int),by
  have e:(((2^ctz s:Nat):Int)*285870213051353865)=((2^ctz s*285870213051353865:Nat):Int):=by rw [QD];rfl
  rw [e];generalize 2^ctz s*285870213051353865=n;unfold IntKind.wrap;simp only [IntKind.bits,IntKind.signed,Ue,Kr,Ge];omega,?_⟩
 refine⟨by decide,_,zf3 (k:=58) (by decide),_,rfl,t1,?_⟩;have hv:(zh0.map u8)[2^ctz s*285870213051353865%18446744073709551616/2^58]?=some (u8 (UInt8.ofNat (ctz s))):=by rw [KR,t2];rfl
 refine⟨u8 (UInt8.ofNat (ctz s)),by rw [US];exact zc hT hv,?_⟩;have e:(UInt8.ofNat (ctz s)).toNat=ctz s:=by rw [KF];omega
 exact⟨(ctz s:Int),by rw [e];exact ze (by omega),rfl,rfl⟩
theorem zhu {s:Nat} {w:Wd}:Calls PG 114 #[s64 s] w fun e w'=>e = .returned (.func (.func 157) #[] #[.pointer (some ⟨w.heap.size,0,none⟩)])/\w'=w.alloc (.cells #[s64 s] 36):=by
 refine zF 4 [s64 s] Tryz.func114 ?_;exact⟨rfl,rfl⟩
def StN (pre:List Nat) (vs:List Value) (W:Wd):Prop:=∃ c,pre.getLast?=some c/\vs=[i64 (c:Nat)]
theorem zal {X Y:Wd} (h:Tz64M X) (hs:Y.heap[1]?=X.heap[1]?):Tz64M Y:=js hs h
theorem zaT {X:Wd} (h:Tz64M X):1<X.heap.size:=Jz X _ (zme h)
def RdE (bx:Nat) (k:Nat):Prop:=k=bx\/k=1
theorem zkR {bx s:Nat} {W0:Wd} (hbx:W0.heap[bx]?=some (.cells #[s64 s] 36 (0,0))) (hs:s<2^64) (hT:Tz64M W0) :
  ziJ PG 157 [At0 bx] (els s) W0 (RdE bx) (fun _=>False) StN:=by
 intro yl F0 J Jx W hsz hrd hrf hJ hJx hy h0;have hbW:W.heap[bx]?=some (.cells #[s64 s] 36 (0,0)):=(hrd bx (.inl (.inl rfl))).trans hbx;have hTW:Tz64M W:=zal hT (hrd _ (.inl (.inr rfl)));have hgf:¬ F0 1:=hrf _ (.inr rfl);refine zF 16 [.func (.yield yl) #[] #[],At0 bx] Tryz.func157 ?_;refine⟨_,zc (za hbW) (i:=0) rfl,?_⟩;refine⟨List Nat×Nat,fun q=>⟨[(0,.func (.yield yl) #[] #[]),(3,s64 q.2)],[]⟩,
  fun q X=>∃ F,J q.1 F X/\els s=q.1++els q.2/\q.2<2^64/\Tz64M X/\¬ F 1,fun q=>q.2,([],s),
  (cvE rfl rfl),⟨F0,h0,rfl,hs,hTW,hgf⟩,?_⟩
 clear hbW hTW hgf h0;rintro⟨pre,r⟩ X ⟨F,hI,hxs,hr,hTX,hgX⟩;dsimp only at hI hxs hr ⊢;refine biE (fun hc=>?_) fun hc=>?_
 ·have hc:(!decide ((r:Int)=0))=true:=hc;have hc:¬ (r:Int)=0:=by simpa using hc
  have hr0:r≠0:=by omega
  obtain⟨e1,e2,_,_⟩:=jO hr0 hr;refine cmo (zoS hTX hr0 hr) ?_;rintro e _ ⟨rfl,rfl⟩;have hpre:(pre++[ctz r]) <+: els s:=⟨els (qp r),by rw [hxs,e1];simp⟩;refine YieldR.mono (hy pre (ctz r) [i64 (ctz r:Nat)] F X hI ⟨ctz r,by simp,rfl⟩ hpre) ?_;rintro v V (⟨rfl,F',hJV,hKV⟩ | ⟨rfl,F',hJV⟩)
  ·refine brF ?_;have hXs:=hKV.size;have hgl:=zaT hTX;have hTV:Tz64M V:=zal hTX (hKV.same _ hgl hgX);have hgV:¬ F' 1:=fun h=>by
    rcases hKV.fp _ h with h3 | h3
    ·exact hgX h3
    ·omega
   exact⟨((r-1:Nat):Int),(zaQ (a:=(r:Int)-1) (by omega)).trans (by omega),((qp r:Nat):Int),jY (a:=r) (b:=r-1) hr (by omega),(pre++[ctz r],qp r),(cvE rfl rfl),⟨F',hJV,by rw [hxs,e1];simp,by show qp r<_;omega,hTV,hgV⟩,e2⟩
  ·exact brT ⟨⟨_,rfl⟩,.inr ⟨_,F',hpre,hJV⟩⟩
 ·have hc:(!decide ((r:Int)=0))=false:=hc;have hc:(r:Int)=0:=by simpa using hc
  obtain rfl:r=0:=by omega
  refine⟨⟨_,rfl⟩,.inl ?_⟩;rw [hxs,zah,QF];exact⟨F,hI⟩
theorem joG {σ:Type} {n0:Nat} {F:Nat->Prop} {J:σ->Wd->Prop} (hF:∀ k,F k->k<n0) (hn:∀ s A,J s A->n0<=A.heap.size) (hJ:∀ s A B,J s A->Below n0 A B->J s B) :
  JG n0 (fun _=>False) (fun s F' W=>F'=F/\J s W):=by
 refine⟨fun s F' A B ⟨e,h⟩ hs=>⟨e,hJ s A B h ⟨hs.os,hs.tape,hs.output,hs.size,fun k hk=>hs.same k (nL hk (hn s A h)) (.inl ⟨hk,fun h=>h⟩)⟩⟩,fun s F' A k ⟨e,h⟩ hk=>?_⟩;subst e;exact⟨nL (hF k hk) (hn s A h),fun h=>h⟩
theorem jn {n:Nat} {A B:Wd} (h:Below n A B) {g:Nat} {o:Obj} (hg:g<n) (f:A.heap[g]?=some o):B.heap[g]?=some o:=(h.block g hg).trans f
theorem za2 {s:Nat} {w:Wd} (hs:s<2^64) (hT:Tz64M w):Calls PG 82 #[s64 s] w fun e w' =>
  e = .returned (.tuple #[i64 ((els s).headD 0:Nat),.bool (!(els s).isEmpty)])/\Bw w w':=by
 refine qk 9 [s64 s] (.c .p .p) Tryz.func82 ?_;obtain⟨L,hL⟩:=nm (w.heap.size);refine⟨Unit,fun _=>⟨[(0,s64 s),(2,At0 L),(3,At0 (L+1))],[]⟩,fun _ X=>X.heap[L]?=some (.cells #[i64 0] 3 (0,0))/\X.heap[L+1]?=some (.cells #[.bool false] 4 (0,0))/\X.heap.size=L+2/\Bw w X,?_,?_⟩
 ·have sz:=wz w (.cells #[i64 0] 3);refine⟨(),⟨.cons rfl (.cons (by rw [hL];rfl) (.cons (by rw [hL,<- sz];rfl) .nil)),rfl⟩,?_,?_,?_,?_⟩
  ·rw [hL];exact qJ _ (zy w _)
  ·have:=zy (w.alloc (.cells #[i64 0] 3)) (.cells #[.bool false] 4);rw [sz,<- hL] at this;exact this
  ·have:=wz (w.alloc (.cells #[i64 0] 3)) (.cells #[.bool false] 4);rw [sz,<- hL] at this;exact this
  ·exact ((zba w _)).alloc (by simp) _
 rintro _ X ⟨f1,f2,sX,hbX⟩;refine cmo zhu ?_;rintro e W ⟨rfl,hW⟩;have hbW:Bw X W:=by rw [hW];exact (zba _ _)
 have fb:W.heap[X.heap.size]?=some (.cells #[s64 s] 36 (0,0)):=by rw [hW];exact zy X _
 have sW:W.heap.size=L+3:=by rw [hW,wz,sX]
 have g1:=zb hbW f1;have g2:=zb hbW f2;have hbw:Bw w W:=zst hbX hbW;have hTW:=hT.below hbw;clear hW;refine zdb (ze7 _) rfl (lb := #[.pointer (some ⟨X.heap.size,0,none⟩)]) rfl rfl (zkR fb hs hTW) (UR _) (fun k hk=>⟨by rcases hk with (rfl | rfl) | h;exact hlt fb;exact zaT hTW;exact h.elim,rfl⟩) (fun pre vs W ⟨c,_,h⟩=>by rw [h];rfl) (by decide)
  (fun k=>k=L\/k=L+1) (fun pre F Y=>F=(fun k=>k=L\/k=L+1)/\pre=[]/\W.heap.size<=Y.heap.size/\Y.heap[L]?=some (.cells #[i64 0] 3 (0,0))/\Y.heap[L+1]?=some (.cells #[.bool false] 4 (0,0))/\Bw w Y)
  (fun ex pre F Y=>F=(fun k=>k=L\/k=L+1)/\ex = .ret/\W.heap.size<=Y.heap.size/\(∃ c,pre=[c]/\Y.heap[L]?=some (.cells #[i64 (c:Nat)] 3 (0,0)))/\Y.heap[L+1]?=some (.cells #[.bool true] 4 (0,0))/\Bw w Y)
  (fun k hk h=>by have:=zaT hT;rcases hk with rfl | rfl <;> omega)
  (joG (F:=fun k=>k=L\/k=L+1) (J:=fun (pre:List Nat) Y=>pre=[]/\W.heap.size<=Y.heap.size/\Y.heap[L]?=some (.cells #[i64 0] 3 (0,0))/\Y.heap[L+1]?=some (.cells #[.bool false] 4 (0,0))/\Bw w Y) (fun k h=>by omega) (fun s A h=>h.2.1) (fun pre A B ⟨h0,h1,h2,h3,h4⟩ hb=>⟨h0,UI h1 hb.size,jn hb (by omega) h2,jn hb (by omega) h3,h4.trans (hb.mono (by omega))⟩))
  (fun ex=>joG (F:=fun k=>k=L\/k=L+1) (J:=fun (pre:List Nat) Y=>ex = .ret/\W.heap.size<=Y.heap.size/\(∃ c,pre=[c]/\Y.heap[L]?=some (.cells #[i64 (c:Nat)] 3 (0,0)))/\Y.heap[L+1]?=some (.cells #[.bool true] 4 (0,0))/\Bw w Y) (fun k h=>by omega) (fun s A h=>h.2.1) (fun pre A B ⟨h0,h1,⟨c,hc,h2⟩,h3,h4⟩ hb=>⟨h0,UI h1 hb.size,⟨c,hc,jn hb (by omega) h2⟩,jn hb (by omega) h3,h4.trans (hb.mono (by omega))⟩))
  ⟨rfl,rfl,UR _,g1,g2,hbw⟩ ?_ ?_ ?_
 ·rintro yl pre x vs F V hyl hpre hJ ⟨x',hx',rfl⟩ hfy ⟨lo,hlo⟩;have hx':x=x':=by simpa using hx'
  subst hx';refine⟨rfl,F,KeepsG.refl _ _,hJ,?_⟩;rintro o V2 hV2 ⟨rfl,rfl,h1,h2,h3,h4⟩;refine zm k3 h2 (o:=0) (v:=i64 (x:Nat)) rfl rfl (by show 0<1;decide) rfl fun Y fY gY sY=>?_;have h3':=(gY.block (L+1) (hlt h3) (by simp)).trans h3;refine zm k4 h3' (o:=0) (v := .bool true) rfl rfl (by show 0<1;decide) rfl fun Z fZ gZ sZ=>?_;have fY':=(gZ.block L (hlt fY) (by simp)).trans fY;refine⟨_,⟨rfl,rfl,by omega,⟨x,rfl,fY'⟩,fZ,(h4.trans (zk gY (by omega) (by omega))).trans (zk gZ (by omega) (by omega))⟩,(KeepsG.grown (F:=fun k=>k=L\/k=L+1) gY (.inl rfl)).trans (KeepsG.grown gZ (.inr rfl))⟩
 ·rintro D F Y hD hfD ⟨_,h0,h1,h2,h3,h4⟩ hdef;refine zm k3 h2 (o:=0) (v:=i64 0) rfl rfl (by show 0<1;decide) rfl fun Y1 fY gY sY=>?_;have h3':=(gY.block (L+1) (hlt h3) (by simp)).trans h3;refine zm k4 h3' (o:=0) (v := .bool false) rfl rfl (by show 0<1;decide) rfl fun Z fZ gZ sZ=>?_;have fY':=(gZ.block L (hlt fY) (by simp)).trans fY;have hdef':=(gZ.block D (by rw [sY];exact hlt hdef) (by simp;omega)).trans ((gY.block D (hlt hdef) (by simp;omega)).trans hdef);refine⟨_,rfl,hdef',i64 0,?_,.bool false,?_,?_,?_⟩
  ·exact zc (za ((zj (by omega)).trans fY')) (i:=0) rfl
  ·exact zc (za ((zj (by omega)).trans fZ)) (i:=0) rfl
  ·rw [h0];rfl
  ·exact q8 ((h4.trans (zk gY (by omega) (by omega))).trans (zk gZ (by omega) (by omega))) (by omega) _
 ·rintro D ex pre F Y hD hfD ⟨t,ht⟩ ⟨_,rfl,h1,⟨c,rfl,h2⟩,h3,h4⟩ hdef;refine⟨_,rfl,hdef,i64 (c:Nat),?_,.bool true,?_,?_,?_⟩
  ·exact zc (za ((zj (by omega)).trans h2)) (i:=0) rfl
  ·exact zc (za ((zj (by omega)).trans h3)) (i:=0) rfl
  ·rw [<- ht];rfl
  ·exact q8 h4 (by omega) _
def zR:Enc UInt8:=⟨fun b=>[u8 b],1,fun _=>rfl,by decide,fun a u hu=>by
 simp only [Uy,Qs,Gf] at hu;subst hu;rfl⟩
def zav (n:Int):Nat:=if n<1 then 0 else if 64<=n then 18446744073709551615 else 2^n.toNat-1
theorem zaH (n:Int):zav n<2^64:=by
 unfold zav
 split
 ·decide
 split
 ·decide
 ·have:=zZ (k:=n.toNat) (by omega);omega
theorem ziL {n:Int} {w:Wd}:Calls PG 39 #[i64 n] w fun e w'=>e = .returned (s64 (zav n))/\w=w':=by
 refine zF 10 [i64 n] Tryz.func39 ?_;refine biE (fun h=>?_) fun h=>?_
 ·have h:n<1:=dT h;exact⟨by unfold zav;rw [Gi h];rfl,rfl⟩
 ·have h:¬ n<1:=dF h;refine biE (fun h2=>?_) fun h2=>?_
  ·have h2:64<=n:=dT h2;exact⟨by unfold zav;rw [Gh h,Gi h2];rfl,rfl⟩
  ·have h2:¬ 64<=n:=dF h2;obtain⟨k,rfl⟩:∃ k:Nat,n=k:=⟨n.toNat,by omega⟩;have hk:k<64:=by omega
   have hp:=zZ hk;have hp0:=QY k;refine⟨by omega,_,jX hk,?_⟩;refine⟨((2^k-1:Nat):Int),?_,?_⟩
   ·generalize 2^k=m at hp hp0 ⊢;exact (w64 (a:=(m:Int)-1) (by omega)).trans (by omega)
   ·exact⟨by unfold zav;rw [Gh h,Gh h2];rfl,rfl⟩
def zC:Enc Nat:=⟨fun n=>[i64 (n:Nat)],1,fun _=>rfl,by decide,fun a u hu=>by
 simp only [Uy,Qs,Gf] at hu;subst hu;rfl⟩
theorem zeU (s:Nat):(els s).length<=64:=by
 have:=JL (fun i=>s.testBit i) (List.range 64);rw [KS] at this;exact this
def zaV (to:Nat->Nat):List Value:=(List.range 48).map fun i=>s64 (to i)
def zf (r:RelD):List Value:=i64 r.n::zaV r.to
def zJ (to:Nat->Nat):Prop:=∀ i,i<48->to i<2^64
theorem zbi (to:Nat->Nat):(zaV to).length=48:=by unfold zaV;rw [QI,KS]
theorem zcL (to:Nat->Nat) {i:Nat} (h:i<48):(zaV to)[i]?=some (s64 (to i)):=by
 unfold zaV;rw [KR,Kf h];rfl
theorem zg (r:RelD):(zf r).length=49:=by unfold zf;rw [Qp,zbi]
theorem zeA (r:RelD) {i:Nat} (h:i<48):(zf r)[1+i]?=some (s64 (r.to i)):=by
 unfold zf;rw [UG,Jv,zcL _ h]
theorem zpe (to:Nat->Nat) {i:Nat} (h:i<48) (v:Nat):(zaV to).set i (s64 v)=zaV (upd to i v):=by
 apply KM;intro j;by_cases hj:j<48
 ·rw [zcL _ hj];by_cases e:i=j
  ·subst e;rw [JD (by rw [zbi];exact h),zQ]
  ·rw [JU e,zcL _ hj,qz _ _ (fun h=>e h.symm)]
 ·rw [JJ (by rw [QK,zbi];omega),JJ (by rw [zbi];omega)]
theorem zez (r:RelD) {i:Nat} (h:i<48) (v:Nat):(zf r).set (1+i) (s64 v)=zf ⟨r.n,upd r.to i v⟩:=by
 unfold zf;rw [UG,KA,zpe _ h]
theorem zE (r:RelD):(zf r).all Value.oneCell'=true:=by
 unfold zf zaV;rw [Uv,List.all_map];rw [bAT,Qg];exact⟨rfl,fun x _=>rfl⟩
theorem zhC {S:Sig} {g:Nat} {caps:Array Value} {vs:List Value} {w:Wd} {K:Value->Wd->Prop} {KP:List PanicEntry->Wd->Prop} {R:Ending->Wd->Prop} (hok:jP S g=true)
  (h:Calls S.P g (vs++caps.toList).toArray w R) (k:∀ e w',R e w'->∃ v,e = .returned v/\K v w'):znq S (.func (.func g) #[] caps) vs w K KP:=by
 unfold znq;dsimp only;rw [hok];exact CallR.mk h k
theorem zaI (n:Int):j7 n=zav n:=rfl
theorem zaW (a b:Nat):jE a b=qP a b:=rfl
section
variable {r:RelD} {w:Wd}
theorem jV (hr:zJ r.to):CB 34 #[.agg (zf r).toArray] w (.bool (okR r)):=by
 refine zF 38 [.agg (zf r).toArray] Tryz.func34 ?_;have f0:=zy w (.cells (zf r).toArray 39);have hb:Bw w (w.alloc (.cells (zf r).toArray 39)):=zba w _;obtain⟨X,hX⟩:=nm (w.alloc (.cells (zf r).toArray 39));have hX':w.alloc (.cells (Value.agg (zf r).toArray).cells 39)=X:=hX.symm;rw [<- hX] at f0 hb;have hn:X.cell? ⟨w.heap.size,0+0,none⟩=some (i64 r.n):=zc (za f0) (i:=0) rfl;have out:∀ b,okR r=b->(∀ h:Ending.returned (.bool b)=Ending.returned (.bool (okR r)),True):=fun _ _ _=>trivial;refine⟨i64 r.n,by rw [hX'];exact hn,?_⟩;rw [hX'];refine biE (fun h=>?_) fun h=>?_
 ·have h:r.n<0:=dT h;refine brT ?_;exact⟨rb (by unfold okR;rw [Uc (by omega)];rfl),hb⟩
 have h:¬ r.n<0:=dF h;refine⟨i64 r.n,hn,?_⟩;refine biE (fun h2=>?_) fun h2=>?_
 ·have h2:(48:Int)<r.n:=dT h2;exact⟨rb (by unfold okR;rw [Uc (show ¬ r.n<=48 by omega),Ue,Ud]),hb⟩
 have h2:¬ (48:Int)<r.n:=dF h2;have ok0:okR r=(List.range 48).all (zbI r):=by
  unfold okR;rw [Un (by omega),Un (by omega)];rfl
 rw [ok0];refine⟨i64 r.n,hn,?_⟩;refine cmo ziL ?_;rintro e _ ⟨rfl,rfl⟩;refine⟨zaV r.to,zbi _,?_,hlt f0,?_⟩
 ·have:=zP (n:=1) (m:=48) (za f0);have e:((zf r).toArray.toList.drop 1).take 48=zaV r.to:=by
   show (zaV r.to).take 48=_;rw [JF (by rw [zbi];exact UR _)]
  rw [e] at this;exact this
 refine⟨Nat,fun k=>⟨[(1,.pointer (some ⟨w.heap.size,0,none⟩)),(3,s64 (zav r.n)),(18,.agg (zaV r.to).toArray),(19,i64 (k:Nat))],[]⟩,fun k Y=>X=Y/\k<=48/\∀ i,i<k->zbI r i=true,fun k=>48-k,0,
  (cvE rfl rfl),⟨rfl,UU _,fun i hi=>by omega⟩,?_⟩
 rintro k _ ⟨rfl,hk,hall⟩;refine biE (fun hc=>?_) fun hc=>?_
 ·have hc:(k:Int)<48:=dT hc;have hk':k<48:=by omega
  refine⟨k,rfl,hk',?_⟩;refine zay (by rw [US];exact zcL _ hk') ?_;refine⟨_,zck (hr k hk') (zaH _),?_⟩;have no:zbI r k=false->(List.range 48).all (zbI r)=false:=fun h=>by
   rw [KJ];exact⟨k,Uj.2 hk',by rw [h];exact Ks⟩
  refine biE (fun h3=>?_) fun h3=>?_
  ·have h3:(!decide (((qP (r.to k) (zav r.n):Nat):Int)=0))=true:=h3;have h3:¬ jE (r.to k) (j7 r.n)=0:=fun e=>by
    rw [zaW,zaI] at e;rw [e] at h3;exact Gj h3 (by decide)
   refine brT ?_;exact⟨rb (no (by unfold zbI;rw [Uc h3];rfl)).symm,hb⟩
  have h3:(!decide (((qP (r.to k) (zav r.n):Nat):Int)=0))=false:=h3;have h3:jE (r.to k) (j7 r.n)=0:=by
   have h4:decide (((qP (r.to k) (zav r.n):Nat):Int)=0)=true:=by simpa using h3
   exact Uu (dT h4)
  refine⟨i64 r.n,hn,?_⟩;have next:zbI r k=true->∀ {K:Prop},(∀ k',k'=k+1->(∀ i,i<k'->zbI r i=true)->K)->K:=fun h K hK=>hK _ rfl fun i hi=>by
   by_cases e:i=k
   ·rw [e];exact h
   ·exact hall i (by omega)
  have fin:zbI r k=true->∃ s':Nat,s'=k+1/\(X=X/\s'<=48/\∀ i,i<s'->zbI r i=true):=fun h=>next h fun k' e h=>⟨k',e,rfl,by omega,h⟩
  refine biE (fun h4=>?_) fun h4=>?_
  ·have h4:r.n<=(k:Int):=dT h4;refine biE (fun h5=>?_) fun h5=>?_
   ·have h5:(!decide (((r.to k:Nat):Int)=0))=true:=h5;have h5:¬ r.to k=0:=fun e=>by
     rw [e] at h5;exact Gj h5 (by decide)
    exact⟨rb (no (by unfold zbI;rw [Un h3,Uc (by omega),Uc h5];rfl)).symm,hb⟩
   ·have h5:(!decide (((r.to k:Nat):Int)=0))=false:=h5;have h5:r.to k=0:=by
     have h6:decide (((r.to k:Nat):Int)=0)=true:=(by simpa using h5);exact Uu (dT h6)
    obtain⟨s',e,hs⟩:=fin (by unfold zbI;rw [Un h3,Un h5];simp);refine nxI (by omega) ?_;exact⟨s',⟨.cons rfl (.cons rfl (.cons rfl (.cons (by rw [e];rfl) .nil))),rfl⟩,hs,by show 48-s'<48-k;omega⟩
  ·have h4:¬ r.n<=(k:Int):=dF h4;refine brF ?_;obtain⟨s',e,hs⟩:=fin (by unfold zbI;rw [Un h3,Un (by omega)];rfl);refine nxI (by omega) ?_;exact⟨s',⟨.cons rfl (.cons rfl (.cons rfl (.cons (by rw [e];rfl) .nil))),rfl⟩,hs,by show 48-s'<48-k;omega⟩
 ·have hc:¬ (k:Int)<48:=dF hc;obtain rfl:k=48:=by omega
  refine⟨rb ?_,hb⟩;symm;rw [Qg];exact fun i hi=>hall i (Uj.1 hi)
theorem zjx {n g:Nat} {caps:Array Value} {row:Nat->Nat} (hn:n<=48) (hok:jP (sg 0) g=true) (zc3:∀ a X,a<n->Bw w X->Calls PG g (i64 (a:Nat)::caps.toList).toArray X fun e Y=>e = .returned (s64 (row a))/\Bw X Y) :
  CB 81 #[i64 n,.func (.func g) #[] caps] w (.agg (zf (jQ n row)).toArray):=by
 refine qk 21 [i64 n,.func (.func g) #[] caps] (.s .p (.c .p .p)) Tryz.func81 ?_;obtain⟨L,hL⟩:=nm (w.heap.size);refine⟨Unit,fun _=>⟨[(0,i64 n),(1,.func (.func g) #[] caps),(4,At0 L),(5,At0 (L+1))],[]⟩,fun _ X=>X.heap[L]?=some (.cells (zf zB).toArray 39 (0,0))/\X.heap[L+1]?=some (.cells (zf ⟨n,fun _=>0⟩).toArray 39 (0,0))/\X.heap.size=L+2/\Bw w X,?_,?_⟩
 ·have h1:=zy w (.cells (zf zB).toArray 39);have s1:=wz w (.cells (zf zB).toArray 39);have h2:=zy (w.alloc (.cells (zf zB).toArray 39)) (.cells (zf zB).toArray 39);have s2:=wz (w.alloc (.cells (zf zB).toArray 39)) (.cells (zf zB).toArray 39);have b2:Bw w ((w.alloc (.cells (zf zB).toArray 39)).alloc (.cells (zf zB).toArray 39)):=((zba w _)).alloc (by simp) _;refine⟨zf ⟨n,fun _=>0⟩,rfl,?_⟩;refine zt (v := .agg (zf ⟨n,fun _=>0⟩).toArray) k39 h2 rfl rfl (zE _) ?_;rw [s1] at h2 s2;refine⟨(),⟨.cons rfl (.cons rfl (.cons (by rw [hL];rfl) (.cons (by rw [hL,<- s1];rfl) .nil))),rfl⟩,?_,?_,?_,?_⟩
  ·rw [hL];exact (zq (by rw [s1];omega)).trans (qJ _ h1)
  ·rw [hL,s1];exact zn h2
  ·rw [hL];simp
  ·exact zl b2 (by omega) _
 rintro _ X ⟨f0,f1,sX,hbX⟩;refine⟨Nat,fun k=>⟨[(1,.func (.func g) #[] caps),(4,At0 L),(5,At0 (L+1)),(9,i64 n),(10,i64 (k:Nat))],[]⟩,fun k Y=>k<=n/\Y.heap[L]?=some (.cells (zf zB).toArray 39 (0,0))/\Y.heap[L+1]?=some (.cells (zf (⟨n,fun i=>if i<k then row i else 0⟩)).toArray 39 (0,0))/\Bw w Y,fun k=>n-k,0,
  (cvE rfl rfl),⟨UU _,f0,f1,hbX⟩,?_⟩
 clear f0 f1 sX hbX X;rintro k X ⟨hk,f0,f1,hbX⟩;refine biE (fun hc=>?_) fun hc=>?_
 ·have hc:(k:Int)<(n:Int):=dT hc;have hkn:k<n:=by omega
  refine zhC (S:=sg 21) hok (zc3 k X hkn hbX) ?_;rintro e Y ⟨rfl,hbY⟩;refine⟨_,rfl,?_⟩;refine⟨k,rfl,by omega,?_⟩;have f1Y:=zb hbY f1;refine zm k36 f1Y (o:=0+1+k*1) (v:=s64 (row k)) rfl rfl (by rw [zg];omega) rfl fun Z fZ gZ sZ=>?_;rw [UM,US,zez _ (by omega)] at fZ;refine nxI (by omega) ?_;refine⟨k+1,(cvE rfl rfl),⟨hkn,(gZ.block L (hlt (zb hbY f0)) (by simp)).trans (zb hbY f0),?_,((zst hbX hbY)).trans (zk gZ ((zst hbX hbY)).size (by omega))⟩,zdc (by omega)⟩;have e:upd (fun i=>if i<k then row i else 0) k (row k)=fun i=>if i<k+1 then row i else 0:=by
   funext i;by_cases e:i=k
   ·subst e;rw [zQ,Gi (by omega)]
   ·rw [qz _ _ e];by_cases h:i<k
    ·rw [Gi h,Gi (by omega)]
    ·rw [Gh h,Gh (by omega)]
  rw [<- e];exact fZ
 ·have hc:¬ (k:Int)<(n:Int):=dF hc;obtain rfl:k=n:=by omega
  refine⟨zf (jQ k row),zg _,za f1,hlt f1,?_⟩;refine zt (v := .agg (zf (jQ k row)).toArray) k39 f0 rfl rfl (zE _) ?_;exact⟨zf (jQ k row),zg _,za (zn f0),rfl,zl hbX (by omega) _⟩
end
def evE:Enc Ev:=⟨fun e=>[i64 e.th,u8 e.k,u8 e.l,u8 e.v,u8 e.m,u8 e.i,u8 e.p],7,fun _=>rfl,by decide,fun a u hu=>by
 simp only [Uy,Qs,Gf] at hu;rcases hu with rfl | rfl | rfl | rfl | rfl | rfl | rfl <;> rfl⟩
def seg (n:Nat) (f:Nat->Value):List Value:=(List.range n).map f
def zej (f:Nat->Ev):List Value:=((List.range 24).map f).flatMap evE.enc
def qO (R:RunD):List Value:=i64 R.pc::(seg 8 (fun i=>u8 (R.regs i))++(seg 8 (fun i=>s32 (R.deps i))++([s32 R.ctl,i64 R.many]++(zej R.ev ++
 (seg 24 (fun i=>s32 (R.data i))++(seg 24 (fun i=>s32 (R.ctrl i))++seg 24 (fun i=>s32 (R.att i))))))))
theorem zG (n:Nat) (f:Nat->Value):(seg n f).length=n:=by unfold seg;rw [QI,KS]
theorem zb6 (f:Nat->Ev):(zej f).length=168:=by
 unfold zej;rw [qu,QI,KS];rfl
theorem zcI {n:Nat} (f:Nat->Value) {i:Nat} (h:i<n):(seg n f)[i]?=some (f i):=by
 unfold seg;rw [KR,Kf h];rfl
theorem ziV {n:Nat} (f g:Nat->Value) {i:Nat} (h:i<n) (hg:g i=g i) (hs:∀ j,j≠i->g j=f j):(seg n f).set i (g i)=seg n g:=by
 apply KM;intro j;by_cases hj:j<n
 ·rw [zcI g hj];by_cases e:i=j
  ·subst e;rw [JD (by rw [zG];exact h)]
  ·rw [JU e,zcI f hj,hs j (fun h=>e h.symm)]
 ·rw [JJ (by rw [QK,zG];omega),JJ (by rw [zG];omega)]
theorem qW {A B:List Value} {n i:Nat} (h:A.length=n):(A++B)[n+i]?=B[i]?:=by
 rw [Jm (by omega),h,Jy]
theorem zgf {B:List Value} {n i:Nat} {f:Nat->Value} (h:i<n):(seg n f++B)[i]?=some (f i):=by
 rw [Jq (by rw [zG];exact h),zcI f h]
theorem qC {A B:List Value} {n i:Nat} (h:A.length=n) {v:Value}:(A++B).set (n+i) v=A++B.set i v:=by
 rw [JO _ _ (by omega),h,Jy]
theorem zes {B:List Value} {n i:Nat} {f:Nat->Value} (g:Nat->Value) (h:i<n) (hs:∀ j,j≠i->g j=f j):(seg n f++B).set i (g i)=seg n g++B:=by
 rw [List.set_append_left _ _ (by rw [zG];exact h),ziV f g h rfl hs]
theorem jB (R:RunD):(qO R).length=259:=by
 unfold qO;simp only [Qp,lap,zG,zb6,QJ]
section
variable (R:RunD)
theorem zqW {i:Nat} (h:i<8):(qO R)[1+i]?=some (u8 (R.regs i)):=by
 unfold qO;rw [UG,Jv,zgf h]
theorem zqX {i:Nat} (h:i<8):(qO R)[9+i]?=some (s32 (R.deps i)):=by
 unfold qO;rw [show 9+i=(8+i)+1 by omega,Jv,qW (zG _ _),zgf h]
theorem zgz:∃ A,A.length=16/\qO R=i64 R.pc::(A++([s32 R.ctl,i64 R.many]++(zej R.ev++(seg 24 (fun i=>s32 (R.data i))++(seg 24 (fun i=>s32 (R.ctrl i))++seg 24 (fun i=>s32 (R.att i))))))) :=
 ⟨seg 8 (fun i=>u8 (R.regs i))++seg 8 (fun i=>s32 (R.deps i)),by rw [lap,zG,zG],by unfold qO;rw [KL]⟩
theorem zmC:(qO R)[17]?=some (s32 R.ctl):=by
 obtain⟨A,hA,e⟩:=zgz R;rw [e];exact (qW (i:=0) hA).trans rfl
theorem zbH:(qO R)[18]?=some (i64 R.many):=by
 obtain⟨A,hA,e⟩:=zgz R;rw [e];exact (qW (i:=1) hA).trans rfl
theorem zj2 {i:Nat} (h:i<24):(qO R)[187+i]?=some (s32 (R.data i)):=by
 obtain⟨A,hA,e⟩:=zgz R;rw [e,show 187+i=(16+(2+(168+i)))+1 by omega,Jv,qW hA,qW (A:=[s32 R.ctl,i64 R.many]) (n:=2) rfl,qW (zb6 _),zgf h]
theorem zj3 {i:Nat} (h:i<24):(qO R)[211+i]?=some (s32 (R.ctrl i)):=by
 obtain⟨A,hA,e⟩:=zgz R;rw [e,show 211+i=(16+(2+(168+(24+i))))+1 by omega,Jv,qW hA,qW (A:=[s32 R.ctl,i64 R.many]) (n:=2) rfl,qW (zb6 _),qW (zG _ _),zgf h]
theorem ziZ {i:Nat} (h:i<24):(qO R)[235+i]?=some (s32 (R.att i)):=by
 obtain⟨A,hA,e⟩:=zgz R;rw [e,show 235+i=(16+(2+(168+(24+(24+i)))))+1 by omega,Jv,qW hA,qW (A:=[s32 R.ctl,i64 R.many]) (n:=2) rfl,qW (zb6 _),qW (zG _ _),qW (zG _ _),zcI _ h]
theorem zgA (n:Nat):(qO R).set 0 (i64 n)=qO { R with pc:=n }:=rfl
theorem zjY {i:Nat} (h:i<8) (v:UInt8):(qO R).set (1+i) (u8 v)=qO { R with regs:=upd R.regs i v }:=by
 unfold qO;rw [UG,KA];have:=zes (B:=seg 8 (fun i=>s32 (R.deps i))++([s32 R.ctl,i64 R.many]++(zej R.ev++(seg 24 (fun i=>s32 (R.data i))++(seg 24 (fun i=>s32 (R.ctrl i))++seg 24 (fun i=>s32 (R.att i))))))) (f:=fun i=>u8 (R.regs i)) (fun j=>u8 (upd R.regs i v j)) h (fun j hj=>by rw [qz _ _ hj]);rw [zQ] at this;rw [this]
theorem zjZ {i:Nat} (h:i<8) (v:Nat):(qO R).set (9+i) (s32 v)=qO { R with deps:=upd R.deps i v }:=by
 unfold qO;rw [show 9+i=(8+i)+1 by omega,KA,qC (zG _ _)];have:=zes (B:=[s32 R.ctl,i64 R.many]++(zej R.ev++(seg 24 (fun i=>s32 (R.data i))++(seg 24 (fun i=>s32 (R.ctrl i))++seg 24 (fun i=>s32 (R.att i)))))) (f:=fun i=>s32 (R.deps i)) (fun j=>s32 (upd R.deps i v j)) h (fun j hj=>by rw [qz _ _ hj]);rw [zQ] at this;rw [this]
theorem zj0 (v:Nat):(qO R).set 17 (s32 v)=qO { R with ctl:=v }:=by
 unfold qO;show i64 R.pc::(seg 8 (fun i=>u8 (R.regs i))++_).set (8+(8+0)) (s32 v)=_;rw [qC (zG _ _),qC (zG _ _)];rfl
theorem ziY (v:Nat):(qO R).set 18 (i64 v)=qO { R with many:=v }:=by
 unfold qO;show i64 R.pc::(seg 8 (fun i=>u8 (R.regs i))++_).set (8+(8+1)) (i64 v)=_;rw [qC (zG _ _),qC (zG _ _)];rfl
theorem zet {i:Nat} (h:i<24) (v:Nat):(qO R).set (187+i) (s32 v)=qO { R with data:=upd R.data i v }:=by
 unfold qO;rw [show 187+i=(8+(8+(2+(168+i))))+1 by omega,KA,qC (zG _ _),qC (zG _ _),qC (A:=[s32 R.ctl,i64 R.many]) (n:=2) rfl,qC (zb6 _)];have:=zes (B:=seg 24 (fun i=>s32 (R.ctrl i))++seg 24 (fun i=>s32 (R.att i))) (f:=fun i=>s32 (R.data i)) (fun j=>s32 (upd R.data i v j)) h (fun j hj=>by rw [qz _ _ hj]);rw [zQ] at this;rw [this]
theorem zeu {i:Nat} (h:i<24) (v:Nat):(qO R).set (211+i) (s32 v)=qO { R with ctrl:=upd R.ctrl i v }:=by
 unfold qO;rw [show 211+i=(8+(8+(2+(168+(24+i)))))+1 by omega,KA,qC (zG _ _),qC (zG _ _),qC (A:=[s32 R.ctl,i64 R.many]) (n:=2) rfl,qC (zb6 _),qC (zG _ _)];have:=zes (B:=seg 24 (fun i=>s32 (R.att i))) (f:=fun i=>s32 (R.ctrl i)) (fun j=>s32 (upd R.ctrl i v j)) h (fun j hj=>by rw [qz _ _ hj]);rw [zQ] at this;rw [this]
theorem zj1 {i:Nat} (h:i<24) (v:Nat):(qO R).set (235+i) (s32 v)=qO { R with att:=upd R.att i v }:=by
 unfold qO;rw [show 235+i=(8+(8+(2+(168+(24+(24+i))))))+1 by omega,KA,qC (zG _ _),qC (zG _ _),qC (A:=[s32 R.ctl,i64 R.many]) (n:=2) rfl,qC (zb6 _),qC (zG _ _),qC (zG _ _)];have:=ziV (fun i=>s32 (R.att i)) (fun j=>s32 (upd R.att i v j)) h rfl (fun j hj=>by rw [qz _ _ hj]);rw [zQ] at this;rw [this]
theorem zrj {α:Type} (f:Nat->α) {n i:Nat} (h:i<n) (v:α):((List.range n).map f).set i v=(List.range n).map (upd f i v):=by
 apply KM;intro j;by_cases hj:j<n
 ·rw [KR,Kf hj];by_cases e:i=j
  ·subst e;rw [JD (by simpa using h)];show _=some (upd f i v i);rw [zQ]
  ·rw [JU e,KR,Kf hj];show some (f j)=some (upd f i v j);rw [qz _ _ (fun h=>e h.symm)]
 ·rw [JJ (by simp;omega),JJ (by simp;omega)]
theorem zly {i:Nat} (h:i<24) (v:Ev):(qO R).take (19+i*7)++evE.enc v++(qO R).drop (19+i*7+7)=qO { R with ev:=upd R.ev i v }:=by
 obtain⟨A,hA,e⟩:∃ A:List Value,A.length=19/\∀ ev,qO { R with ev:=ev }=A++(zej ev++(seg 24 (fun i=>s32 (R.data i))++(seg 24 (fun i=>s32 (R.ctrl i))++seg 24 (fun i=>s32 (R.att i))))) :=
  ⟨i64 R.pc::(seg 8 (fun i=>u8 (R.regs i))++(seg 8 (fun i=>s32 (R.deps i))++[s32 R.ctl,i64 R.many])),by
   simp only [Qp,lap,zG,QJ],fun ev=>by
   unfold qO;simp only [Qi,KL,QO]⟩
 have e1:qO R=_:=e R.ev;rw [e1,e,<- hA,List.take_length_add_append,Uz,Ji];have:=zkL (E:=evE) ((List.range 24).map R.ev) (i:=i) (by simpa using h) v (seg 24 (fun i=>s32 (R.data i))++(seg 24 (fun i=>s32 (R.ctrl i))++seg 24 (fun i=>s32 (R.att i))));rw [zrj _ h] at this;unfold zej;rw [KL,KL,<- this,KL];rfl
end
theorem zpZ (f:Nat->Ev) {i:Nat} (h:i<24):((zej f).drop (i*7)).take 7=evE.enc (f i):=by
 unfold zej;have:=zeP (E:=evE) ((List.range 24).map f) i (by simpa using h);rw [Qn,Kw] at this;exact this
theorem zmB {R:RunD} {w:Wd} {b:Nat} {t:TypeId} (f:w.heap[b]?=some (.cells (qO R).toArray t (0,0))):zI w ⟨b,19,none⟩ (zej R.ev):=by
 have h:=za f;unfold qO at h;have h1:=zP (n:=19) (m:=168) h;have e:((i64 R.pc::(seg 8 (fun i=>u8 (R.regs i))++(seg 8 (fun i=>s32 (R.deps i))++([s32 R.ctl,i64 R.many]++(zej R.ev++(seg 24 (fun i=>s32 (R.data i))++(seg 24 (fun i=>s32 (R.ctrl i))++seg 24 (fun i=>s32 (R.att i))))))))).drop 19).take 168=zej R.ev:=by
  show ((seg 8 (fun i=>u8 (R.regs i))++_).drop (8+(8+2))).take 168=_;have d:∀ {A B:List Value} {n i:Nat},A.length=n->(A++B).drop (n+i)=B.drop i:=fun {A B n i} h=>by rw [<- h,Ji]
  rw [d (zG _ _),d (zG _ _)];show (zej R.ev++_).take 168=_;rw [QS (zb6 _)]
 rw [<- e];exact h1
def bs (l:List UInt8):ByteArray:=⟨l.toArray⟩
def qB (l:List UInt8):Value := .string (bs l)
theorem zsc (l:List UInt8):(bs l).data.toList=l:=rfl
theorem jh (x y:Operand) (a b:List UInt8) (w:Wd):(do eqGuard .eql 9 x y (qB a) (qB b);binOp .eql 9 (qB a) (qB b)).run PG w = .ok (.bool (decide (a=b))) w:=by
 have h1:(eqGuard .eql 9 x y (qB a) (qB b)).run PG w = .ok () w:=rfl;rw [UO,h1,KX];show (Op.stringOp .eql (bs a) (bs b)).run PG w=_;simp only [Op.stringOp,UP,ByteArray.toList_eq,zsc];have hd:(a == b)=decide (a=b):=by by_cases h:a=b <;> simp [h]
 rw [hd]
def zkv:Enc (List UInt8):=⟨fun l=>[qB l],1,fun _=>rfl,by decide,fun a u hu=>by
 simp only [Uy,Qs,Gf] at hu;subst hu;rfl⟩
def zA:Enc InsD:=⟨fun x=>[u8 x.op,u8 x.dst,u8 x.loc,.bool x.ar,u8 x.an,.bool x.br,u8 x.bn,u8 x.fn,u8 x.mode,u8 x.skip],10,fun _=>rfl,by decide,fun a u hu=>by
 simp only [Uy,Qs,Gf] at hu;rcases hu with rfl | rfl | rfl | rfl | rfl | rfl | rfl | rfl | rfl | rfl <;> rfl⟩
abbrev zen:=List InsD×OA×Nat
def zjR (x:zen):Value := .slice x.2.1 x.1.length x.2.2
def zhN:Enc zen:=⟨fun x=>[zjR x],1,fun _=>rfl,by decide,fun a u hu=>by
 simp only [Uy,Qs,Gf] at hu;subst hu;rfl⟩
def j5 (c:Cnd) (p:OA) (cap:Nat):List Value:=[u8 c.kind,u8 c.thread,u8 c.n,u8 c.val,.slice p c.kids.length cap]
inductive KidsV (B:Nat) (w:Wd):OA->List Cnd->Prop
 | mk (p:OA) (kids:List Cnd) (hn:kids.length*32<=140737488351232) (b o:Nat) (hp:kids.length=0\/p=some ⟨b,o,none⟩) (q:Nat->OA) (c:Nat->Nat)
   (hk:∀ i (h:i<kids.length),b<B/\zI w ⟨b,o+i*5,none⟩ (j5 kids[i] (q i) (c i)))
   (ht:∀ i (h:i<kids.length),KidsV B w (q i) kids[i].kids):KidsV B w p kids
theorem KidsV.inv {B:Nat} {w:Wd} {p:OA} {kids:List Cnd} (h:KidsV B w p kids):kids.length*32<=140737488351232/\∃ b o,(kids.length=0\/p=some ⟨b,o,none⟩) /\
  ∀ i (h:i<kids.length),∃ q c,b<B/\zI w ⟨b,o+i*5,none⟩ (j5 kids[i] q c)/\KidsV B w q kids[i].kids:=by
 cases h with
 | mk _ _ hn b o hp q c hk ht=>exact⟨hn,b,o,hp,fun i hi=>⟨q i,c i,(hk i hi).1,(hk i hi).2,ht i hi⟩⟩
theorem KidsV.kept {B:Nat} {w w2:Wd} {p:OA} {kids:List Cnd} (h:KidsV B w p kids) (hb:Below B w w2):KidsV B w2 p kids:=by
 induction h with
 | mk p kids hn b o hp q c hk ht ih=>exact .mk p kids hn b o hp q c (fun i hi=>⟨(hk i hi).1,zS hb (hk i hi).1 (hk i hi).2⟩) ih
theorem KidsV.wider {B B':Nat} {w:Wd} {p:OA} {kids:List Cnd} (h:KidsV B w p kids) (hb:B<=B'):KidsV B' w p kids:=by
 induction h with
 | mk p kids hn b o hp q c hk ht ih=>exact .mk p kids hn b o hp q c (fun i hi=>⟨nL (hk i hi).1 hb,(hk i hi).2⟩) ih
def ThrsV (B:Nat) (w:Wd) (p:OA) (l:List (List InsD)):Prop:=∃ xs:List zen,xs.map (·.1)=l/\RowB zhN B w p xs/\∀ x∈xs,RowB zA B w x.2.1 x.1
theorem ThrsV.below {B:Nat} {w w2:Wd} {p:OA} {l:List (List InsD)} (h:ThrsV B w p l) (hb:Below B w w2):ThrsV B w2 p l:=by
 obtain⟨xs,h1,h2,h3⟩:=h;exact⟨xs,h1,h2.below hb,fun x hx=>(h3 x hx).below hb⟩
theorem ThrsV.mono {B B':Nat} {w:Wd} {p:OA} {l:List (List InsD)} (h:ThrsV B w p l) (hb:B<=B'):ThrsV B' w p l:=by
 obtain⟨xs,h1,h2,h3⟩:=h;exact⟨xs,h1,h2.mono hb,fun x hx=>(h3 x hx).mono hb⟩
def jp (p:Prg) (p1:OA) (c1:Nat) (p2:OA) (c2:Nat) (p3:OA) (c3:Nat) (p4:OA) (c4:Nat):List Value :=
 [qB p.name,.slice p1 p.locs.length c1,.slice p2 p.init.length c2,.slice p3 p.threads.length c3,u8 p.ask,u8 p.cond.kind,u8 p.cond.thread,u8 p.cond.n,u8 p.cond.val,.slice p4 p.cond.kids.length c4]
structure PrgLen (p:Prg):Prop where
 name:p.name.length<=140737488351232
 locs:p.locs.length<=140737488351232
 loc:∀ s∈p.locs,s.length<=140737488351232
 init:p.init.length<=140737488351232
 threads:p.threads.length<=140737488351232
 thread:∀ l∈p.threads,l.length<=140737488351232
structure PrgV (B:Nat) (w:Wd) (vs:List Value) (p:Prg):Prop where
 len:PrgLen p
 h:∃ p1 c1 p2 c2 p3 c3 p4 c4,vs=jp p p1 c1 p2 c2 p3 c3 p4 c4/\RowB zkv B w p1 p.locs/\RowB zR B w p2 p.init/\ThrsV B w p3 p.threads/\KidsV B w p4 p.cond.kids/\p.locs.length<=c1
theorem PrgV.below {B:Nat} {w w2:Wd} {vs:List Value} {p:Prg} (h:PrgV B w vs p) (hb:Below B w w2):PrgV B w2 vs p:=by
 obtain⟨p1,c1,p2,c2,p3,c3,p4,c4,h0,h1,h2,h3,h4,h5⟩:=h.h;exact⟨h.len,p1,c1,p2,c2,p3,c3,p4,c4,h0,h1.below hb,h2.below hb,h3.below hb,h4.kept hb,h5⟩
theorem PrgV.mono {B B':Nat} {w:Wd} {vs:List Value} {p:Prg} (h:PrgV B w vs p) (hb:B<=B'):PrgV B' w vs p:=by
 obtain⟨p1,c1,p2,c2,p3,c3,p4,c4,h0,h1,h2,h3,h4,h5⟩:=h.h;exact⟨h.len,p1,c1,p2,c2,p3,c3,p4,c4,h0,h1.mono hb,h2.mono hb,h3.mono hb,h4.wider hb,h5⟩
theorem PrgV.size {B:Nat} {w:Wd} {vs:List Value} {p:Prg} (h:PrgV B w vs p):vs.length=10:=by
 obtain⟨p1,c1,p2,c2,p3,c3,p4,c4,rfl,_⟩:=h.h;rfl
theorem w8N (u:Nat):IntKind.u8.wrap (u:Int)=((UInt8.ofNat u).toNat:Int):=by
 rw [KF];unfold IntKind.wrap;simp only [IntKind.bits,IntKind.signed,Ue,Kr,Ge];omega
abbrev jw (X:Wd) (b:Nat) (R:RunD):Prop:=X.heap[b]?=some (.cells (qO R).toArray 189 (0,0))
abbrev AtR (b:Nat):Value:=At0 b
section
variable {R:RunD} {b:Nat} {w:Wd}
theorem zfs {k l v m:UInt8} {d:Nat} (f:jw w b R) (hm:R.many<24):Calls PG 207 #[AtR b,u8 k,u8 l,u8 v,u8 m,s32 d] w fun e w' =>
  e = .returned (i64 R.many)/\jw w' b (zaz R k l v m d)/\w.grownBy w' (some b)/\w'.heap.size=w.heap.size:=by
 refine zF 58 [AtR b,u8 k,u8 l,u8 v,u8 m,s32 d] Tryz.func207 ?_;refine⟨_,zc (za f) (i:=18) (zbH R),?_⟩;refine DrawE.ord [17] [0,1,2,3,4,5,6,7,8,9,10,11,12,13,14,15,16,17] (by kernel_rfl) ?_;refine⟨_,zc (za (hdr f)) (i:=0) rfl,?_⟩;refine⟨_,w8N _,?_⟩;refine⟨_,w8N _,?_⟩;obtain⟨ev,hev⟩:∃ ev:Ev,ev=⟨0,k,l,v,m,UInt8.ofNat R.pc,UInt8.ofNat R.many⟩:=⟨_,rfl⟩;refine⟨evE.enc ev,by rw [hev];rfl,?_⟩;refine⟨R.many,rfl,hm,?_⟩;refine jZ k49 (hdr f) (o:=0+19+R.many*7) (v := .agg (evE.enc ev).toArray) rfl (by
  show 0+19+R.many*7+7<=(qO R).length;rw [jB];omega) rfl fun Y fY gY sY=>?_
 have fY:jw Y b { R with ev:=upd R.ev R.many ev }:=by
  show Y.heap[b]?=some (.cells (qO { R with ev:=upd R.ev R.many ev }).toArray 189 (0,0));rw [<- zly R hm ev,fY,UM];rfl
 refine⟨R.many,rfl,hm,?_⟩;refine zm zlW fY (o:=0+187+R.many*1) (v:=s32 d) rfl rfl (by rw [jB];omega) rfl fun Z fZ gZ sZ=>?_;rw [UM,US,zet _ hm] at fZ;refine DrawE.ord [9] [0,1,2,3,4,5,6,7,8,9] (by kernel_rfl) ?_;refine⟨_,zc (za (hdr fZ)) (i:=17) (zmC _),?_⟩;refine⟨R.many,rfl,hm,?_⟩;refine zm zlW (hdr fZ) (o:=0+211+R.many*1) (v:=s32 R.ctl) rfl rfl (by rw [jB];omega) rfl fun U fU gU sU=>?_;rw [UM,US,zeu _ hm] at fU;refine⟨_,zc (za fU) (i:=18) (zbH _),?_⟩;refine⟨((R.many+1:Nat):Int),(ze (by show _<=((R.many:Nat):Int)+1/\((R.many:Nat):Int)+1<=_;omega)).trans rfl,?_⟩;refine zm k3 fU (o:=0+18) (v:=i64 (R.many+1:Nat)) rfl rfl (by rw [jB];decide) rfl fun V fV gV sV=>?_;rw [UM,ziY] at fV;have gd:w.grownBy w.drew (some b):=⟨rfl,rfl,rfl,UR _,fun _ _ _=>rfl⟩;have gd2:Z.grownBy Z.drew (some b):=⟨rfl,rfl,rfl,UR _,fun _ _ _=>rfl⟩;refine⟨rfl,?_,zd (zd (zd (zd gd gY) gZ) (zd gd2 gU)) gV,?_⟩
 ·unfold zaz;rw [<- hev];exact fV
 ·rw [sV,sU];show Z.heap.size=_;rw [sZ,sY];rfl
theorem zmA {d v:UInt8} {s:Nat} (f:jw w b R) (hd:d.toNat<8):Calls PG 208 #[AtR b,u8 d,u8 v,s32 s] w fun e w' =>
  e = .returned (.tuple #[])/\jw w' b (ziU R d v s)/\w.grownBy w' (some b)/\w'.heap.size=w.heap.size:=by
 refine zF 20 [AtR b,u8 d,u8 v,s32 s] Tryz.func208 ?_;refine⟨d.toNat,rfl,hd,?_⟩;refine zm k5 f (o:=0+1+d.toNat*1) (v:=u8 v) rfl rfl (by rw [jB];omega) rfl fun Y fY gY sY=>?_;rw [UM,US,zjY _ hd] at fY;refine⟨d.toNat,rfl,hd,?_⟩;refine zm zlW fY (o:=0+9+d.toNat*1) (v:=s32 s) rfl rfl (by rw [jB];omega) rfl fun Z fZ gZ sZ=>?_;rw [UM,US,zjZ _ hd] at fZ;exact⟨rfl,fZ,zd gY gZ,sZ.trans sY⟩
theorem zbz {r:Bool} {n:UInt8} (f:jw w b R) (hn:r=true->n.toNat<8):Calls PG 209 #[AtR b,.agg #[.bool r,u8 n]] w fun e w' =>
  e = .returned (.tuple #[u8 (qt r n R).1,s32 (qt r n R).2])/\Bw w w':=by
 refine zF 24 [AtR b,.agg #[.bool r,u8 n]] Tryz.func209 ?_;have f0:=zy w (.cells #[.bool r,u8 n] 53);have hb:Bw w (w.alloc (.cells #[.bool r,u8 n] 53)):=zba w _;refine⟨_,zc (za f0) (i:=0) rfl,?_⟩;refine biE (fun h=>?_) fun h=>?_
 ·have hn8:=hn h;have fr:=zb hb f;refine DrawE.ord [] [0,1,2,3,4,5,6,7,8,9,10,11,12,13,14,15] (by kernel_rfl) ?_;refine⟨_,zc (za (hdr f0)) (i:=1) rfl,?_⟩;refine⟨n.toNat,rfl,hn8,?_⟩;refine⟨_,by rw [US,Uz];exact zc (za (hdr fr)) (zqW R hn8),?_⟩;refine⟨_,zc (za (hdr f0)) (i:=1) rfl,?_⟩;refine⟨n.toNat,rfl,hn8,?_⟩;refine⟨_,by rw [US,Uz];exact zc (za (hdr fr)) (zqX R hn8),?_⟩;refine⟨?_,hb.trans ((UW _ _).drew)⟩;unfold qt;rw [Gi h];rfl
 ·refine⟨_,zc (za f0) (i:=1) rfl,?_⟩;refine⟨?_,hb⟩;unfold qt;rw [Gh (by rw [h];exact Ks)];rfl
end
abbrev zcu (x:InsD):Value := .agg (zA.enc x).toArray
section
variable {R:RunD} {b:Nat} {w:Wd}
theorem znT {x:InsD} {v:UInt8} (f:jw w b R) (hm:R.many<24) (hd:x.dst.toNat<8):Calls PG 199 #[AtR b,zcu x,u8 v] w fun e w' =>
  e = .returned (.tuple #[])/\jw w' b (zpD R x v)/\w.grownBy w' (some b):=by
 refine zF 21 [AtR b,zcu x,u8 v] Tryz.func199 ?_;have f0:=zy w (.cells (zA.enc x).toArray 55);have hb:Bw w (w.alloc (.cells (zA.enc x).toArray 55)):=zba w _;have fr:=zb hb f;have hne:w.heap.size≠b:=fun e=>by have:=hlt f;omega
 refine⟨_,zc (za f0) (i:=2) rfl,_,zc (za f0) (i:=8) rfl,cmo (zfs (k:=1) (l:=x.loc) (v:=v) (m:=x.mode) (d:=0) fr hm) ?_⟩;rintro e Y ⟨rfl,fY,gY,sY⟩;have f0Y:=(gY.block w.heap.size (hlt f0) (by simpa using hne)).trans f0;refine DrawE.ord [6] [0,1,2,3,4,5,6] (by kernel_rfl) ⟨_,zc (za (hdr f0Y)) (i:=1) rfl,by omega,_,zf4 (e:=R.many) (by omega),cmo (zmA (d:=x.dst) (v:=v) (s:=2^R.many) (hdr fY) hd) ?_⟩;rintro e Z ⟨rfl,fZ,gZ,sZ⟩;have gd:Y.grownBy Y.drew (some b):=⟨rfl,rfl,rfl,UR _,fun _ _ _=>rfl⟩;exact⟨rfl,fZ,zd (zi hb) (zd gY (zd gd gZ))⟩
theorem zlz {x:InsD} {v:UInt8} (f:jw w b R) (hm:R.many<24) (ha:x.ar=true->x.an.toNat<8):Calls PG 200 #[AtR b,zcu x,u8 v] w fun e w' =>
  e = .returned (.tuple #[])/\jw w' b (zls R x)/\w.grownBy w' (some b):=by
 refine zF 23 [AtR b,zcu x,u8 v] Tryz.func200 ?_;have f0:=zy w (.cells (zA.enc x).toArray 55);have hb:Bw w (w.alloc (.cells (zA.enc x).toArray 55)):=zba w _;have fr:=zb hb f;refine⟨[.bool x.ar,u8 x.an],rfl,qI (o:=3) (n:=2) f0,hlt f0,cmo (zbz fr ha) ?_⟩;rintro e Y ⟨rfl,hbY⟩;have f0Y:=zb hbY f0;have fY:=zb hbY fr;refine⟨_,zc (za f0Y) (i:=2) rfl,_,zc (za f0Y) (i:=8) rfl,cmo (zfs (k:=2) (l:=x.loc) (v:=(qt x.ar x.an R).1) (m:=x.mode) (d:=(qt x.ar x.an R).2) fY hm) ?_⟩;rintro e Z ⟨rfl,fZ,gZ,sZ⟩;exact⟨rfl,fZ,zd (zi hb) (zd (zi hbY) gZ)⟩
theorem zlB {x:InsD} {v:UInt8} (f:jw w b R) (hm:R.many<24):Calls PG 205 #[AtR b,zcu x,u8 v] w fun e w' =>
  e = .returned (.tuple #[])/\jw w' b (zl5 R x)/\w.grownBy w' (some b):=by
 refine zF 10 [AtR b,zcu x,u8 v] Tryz.func205 ?_;have f0:=zy w (.cells (zA.enc x).toArray 55);have hb:Bw w (w.alloc (.cells (zA.enc x).toArray 55)):=zba w _;have fr:=zb hb f;refine⟨_,zc (za f0) (i:=8) rfl,cmo (zfs (k:=3) (l:=0) (v:=0) (m:=x.mode) (d:=0) fr hm) ?_⟩;rintro e Z ⟨rfl,fZ,gZ,sZ⟩;exact⟨rfl,fZ,zd (zi hb) gZ⟩
end
def zuX (x:InsD):Prop:=(x.op=1/\x.dst.toNat<8)\/(x.op=2/\(x.ar=true->x.an.toNat<8))\/x.op=7
def fnV (g:Nat):Value := .func (.func g) #[] #[]
def zrS:List Value:=[.nilFunc,fnV 199,fnV 200,fnV 201,fnV 202,fnV 203,fnV 204,fnV 205,fnV 206]
theorem zoo {w:Wd}:CB 193 #[] w (.agg zrS.toArray):=by
 refine zF 2 [] Tryz.func193 ?_;have f0:=zy w (.cells (List.replicate 9 Value.nilFunc).toArray 266);have hb:Bw w (w.alloc (.cells (List.replicate 9 Value.nilFunc).toArray 266)):=zba w _;exact⟨zrS,rfl,zt (v := .agg zrS.toArray) zuG f0 rfl rfl rfl ⟨zrS,rfl,za (zn f0),rfl,zl hb (UR _) _⟩⟩
theorem zcW {x y:UInt8}:decide (((x.toNat:Nat):Int)=((y.toNat:Nat):Int))=decide (x=y):=QB.2 qq
theorem zrg {x y:UInt8}:decide (((x.toNat:Nat):Int)<((y.toNat:Nat):Int))=decide (x.toNat<y.toNat):=QB.2 Int.ofNat_lt
theorem zsv (a b:UInt8):IntKind.u8.wrap ((a.toNat:Int)+(b.toNat:Int))=((a+b).toNat:Int):=by
 rw [UInt8.toNat_add];unfold IntKind.wrap;simp only [IntKind.bits,IntKind.signed,Ue,Kr,Ge];omega
theorem zt0 (a b:UInt8):IntKind.u8.wrap ((a.toNat:Int)-(b.toNat:Int))=((a-b).toNat:Int):=by
 rw [UInt8.toNat_sub];have:=a.toNat_lt;have:=b.toNat_lt;unfold IntKind.wrap;simp only [IntKind.bits,IntKind.signed,Ue,Kr,Ge];omega
theorem ztZ (a b:UInt8):IntKind.u8.wrap ((BitVec.ofInt IntKind.u8.bits (a.toNat:Int) ^^^ BitVec.ofInt IntKind.u8.bits (b.toNat:Int)).toNat:Int)=((a ^^^ b).toNat:Int):=by
 have e:∀ x:UInt8,(BitVec.ofInt IntKind.u8.bits (x.toNat:Int)).toNat=x.toNat:=fun x=>by
  have:=x.toNat_lt;rw [Kq];simp only [IntKind.bits];omega
 rw [BitVec.toNat_xor,e,e,<- UInt8.toNat_xor];have:=(a ^^^ b).toNat_lt;unfold IntKind.wrap;simp only [IntKind.bits,IntKind.signed,Ue,Kr,Ge];omega
structure RunS (R:RunD):Prop where
 d:∀ i,R.deps i<2^32
 c:R.ctl<2^32
 s:∀ i,R.data i<2^32/\R.ctrl i<2^32/\R.att i<2^32
theorem zkp {a b:Nat} (ha:a<2^32) (hb:b<2^32):a|||b<2^32:=KV ha hb
theorem zmN {n:Nat} (h:n<32):2^n<2^32:=Kd (by decide) h
theorem ze5 {f:Nat->Nat} {b:Nat} (h:∀ i,f i<b) {k v:Nat} (hv:v<b):∀ i,upd f k v i<b:=fun i=>by
 by_cases e:i=k
 ·rw [e,zQ];exact hv
 ·rw [qz _ _ e];exact h i
theorem RunS.val {R:RunD} (h:RunS R) (r:Bool) (n:UInt8):(qt r n R).2<2^32:=by
 unfold qt
 split
 ·exact h.d _
 ·exact (by decide:0<2^32)
theorem RunS.emit {R:RunD} (h:RunS R) {k a v m:UInt8} {d:Nat} (hd:d<2^32):RunS (zaz R k a v m d) :=
 ⟨h.d,h.c,fun i=>⟨ze5 (fun i=>(h.s i).1) hd i,ze5 (fun i=>(h.s i).2.1) h.c i,(h.s i).2.2⟩⟩
theorem RunS.set {R:RunD} (h:RunS R) {d v:UInt8} {s:Nat} (hs:s<2^32):RunS (ziU R d v s):=⟨ze5 h.d hs,h.c,h.s⟩
theorem RunS.exch {R:RunD} (h:RunS R) (hm:R.many<32) {x:InsD} {o v:UInt8} {d:Nat} (hd:d<2^32):RunS (zby R x o v d):=by
 have h2:=(h.emit (k:=1) (a:=x.loc) (v:=o) (m:=3) (d:=0) (by decide)).emit (k:=2) (a:=x.loc) (v:=v) (m:=3) hd;exact RunS.set (R:={ zaz (zaz R 1 x.loc o 3 0) 2 x.loc v 3 d with att:=upd (zaz (zaz R 1 x.loc o 3 0) 2 x.loc v 3 d).att (R.many+1) (2^R.many) })
  ⟨h2.d,h2.c,fun i=>⟨(h2.s i).1,(h2.s i).2.1,ze5 (fun i=>(h2.s i).2.2) (zmN hm) i⟩⟩ (zmN hm)
section
variable {R:RunD} {b:Nat} {w:Wd} {x:InsD} {v:UInt8}
theorem zl6 {o v:UInt8} {d:Nat} (f:jw w b R) (hm:R.many<23) (hd:x.dst.toNat<8):Calls PG 210 #[AtR b,zcu x,u8 o,u8 v,s32 d] w fun e w' =>
  e = .returned (i64 (R.many+1:Nat))/\jw w' b (zby R x o v d)/\w.grownBy w' (some b):=by
 refine zF 39 [AtR b,zcu x,u8 o,u8 v,s32 d] Tryz.func210 ?_;have f0:=zy w (.cells (zA.enc x).toArray 55);have hb:Bw w (w.alloc (.cells (zA.enc x).toArray 55)):=zba w _;have fr:=zb hb f;have hne:w.heap.size≠b:=fun e=>by have:=hlt f;omega
 refine⟨_,zc (za f0) (i:=2) rfl,?_⟩;refine cmo (zfs (k:=1) (l:=x.loc) (v:=o) (m:=3) (d:=0) fr (by omega)) ?_;rintro e Y ⟨rfl,fY,gY,sY⟩;have f0Y:=(gY.block w.heap.size (hlt f0) (by simpa using hne)).trans f0;refine⟨_,zc (za f0Y) (i:=2) rfl,?_⟩;refine cmo (zfs (k:=2) (l:=x.loc) (v:=v) (m:=3) (d:=d) fY (by show R.many+1<24;omega)) ?_;rintro e Z ⟨rfl,fZ,gZ,sZ⟩;have f0Z:=(gZ.block w.heap.size (hlt f0Y) (by simpa using hne)).trans f0Y;have gd:∀ Z:Wd,Z.grownBy Z.drew (some b):=fun Z=>⟨rfl,rfl,rfl,UR _,fun _ _ _=>rfl⟩;refine DrawE.ord [7] [0,1,2,3,4,5,6,7] (by kernel_rfl) ?_;refine⟨by omega,_,zf4 (e:=R.many) (by omega),?_⟩;refine⟨R.many+1,rfl,by omega,?_⟩;refine zm zlW (hdr fZ) (o:=0+235+(R.many+1)*1) (v:=s32 (2^R.many)) rfl rfl (by rw [jB];omega) rfl fun V fV gV sV=>?_;rw [UM,US,zj1 _ (by omega)] at fV;have f0V:=(gV.block w.heap.size (hlt f0Z) (by simpa using hne)).trans (hdr f0Z);refine DrawE.ord [6] [0,1,2,3,4,5,6] (by kernel_rfl) ?_;refine⟨_,zc (za (hdr f0V)) (i:=1) rfl,?_⟩;refine⟨by omega,_,zf4 (e:=R.many) (by omega),?_⟩;refine cmo (zmA (d:=x.dst) (v:=o) (s:=2^R.many) (hdr fV) hd) ?_;rintro e U ⟨rfl,fU,gU,sU⟩;exact⟨rfl,fU,zd (zi hb) (zd gY (zd gZ (zd (gd Z) (zd gV (zd (gd V) gU)))))⟩
theorem znP (f:jw w b R) (hm:R.many<23) (hd:x.dst.toNat<8) (ha:x.ar=true->x.an.toNat<8):Calls PG 202 #[AtR b,zcu x,u8 v] w fun e w' =>
  e = .returned (.tuple #[])/\jw w' b (zo0 R x v)/\w.grownBy w' (some b):=by
 refine zF 21 [AtR b,zcu x,u8 v] Tryz.func202 ?_;have f0:=zy w (.cells (zA.enc x).toArray 55);have hb:Bw w (w.alloc (.cells (zA.enc x).toArray 55)):=zba w _;have fr:=zb hb f;refine⟨[.bool x.ar,u8 x.an],rfl,qI (o:=3) (n:=2) f0,hlt f0,?_⟩;refine cmo (zbz fr ha) ?_;rintro e Y ⟨rfl,hbY⟩;have f0Y:=zb hbY f0;have fY:=zb hbY fr;refine⟨zA.enc x,rfl,za f0Y,hlt f0Y,?_⟩;refine cmo (zl6 (x:=x) (o:=v) (v:=(qt x.ar x.an R).1) (d:=(qt x.ar x.an R).2) fY hm hd) ?_;rintro e Z ⟨rfl,fZ,gZ⟩;exact⟨rfl,fZ,zd (zi hb) (zd (zi hbY) gZ)⟩
theorem zlA (f:jw w b R) (hs:RunS R) (hm:R.many<23) (hd:x.dst.toNat<8) (ha:x.ar=true->x.an.toNat<8):Calls PG 203 #[AtR b,zcu x,u8 v] w fun e w' =>
  e = .returned (.tuple #[])/\jw w' b (zfq R x v)/\w.grownBy w' (some b):=by
 refine zF 40 [AtR b,zcu x,u8 v] Tryz.func203 ?_;have f0:=zy w (.cells (zA.enc x).toArray 55);have hb:Bw w (w.alloc (.cells (zA.enc x).toArray 55)):=zba w _;have fr:=zb hb f;refine⟨[.bool x.ar,u8 x.an],rfl,qI (o:=3) (n:=2) f0,hlt f0,?_⟩;refine cmo (zbz fr ha) ?_;rintro e Y ⟨rfl,hbY⟩;have f0Y:=zb hbY f0;have fY:=zb hbY fr;refine⟨zA.enc x,rfl,za f0Y,hlt f0Y,?_⟩;refine⟨_,zsv _ _,?_⟩;refine cmo (zl6 (x:=x) (o:=v) (v:=v+(qt x.ar x.an R).1) (d:=(qt x.ar x.an R).2) fY hm hd) ?_;rintro e Z ⟨rfl,fZ,gZ⟩;obtain⟨S,hS⟩:=nm (zby R x v (v+(qt x.ar x.an R).1) (qt x.ar x.an R).2);have sS:RunS S:=by rw [hS];exact hs.exch (by omega) (hs.val _ _)
 rw [<- hS] at fZ;have gd:∀ Z:Wd,Z.grownBy Z.drew (some b):=fun Z=>⟨rfl,rfl,rfl,UR _,fun _ _ _=>rfl⟩;refine DrawE.ord [16] [0,1,2,3,4,5,6,7,8,9,10,11,12,13,14,15,16] (by kernel_rfl) ?_;refine⟨R.many+1,rfl,by omega,?_⟩;refine⟨_,by rw [US,Uz];exact zc (za (hdr fZ)) (zj2 S (i:=R.many+1) (by omega)),?_⟩;refine⟨R.many+1,rfl,by omega,?_⟩;refine⟨_,by rw [US,Uz];exact zc (za (hdr fZ)) (ziZ S (i:=R.many+1) (by omega)),?_⟩;refine⟨_,ze4 (sS.s _).1 (sS.s _).2.2,?_⟩;refine⟨R.many+1,rfl,by omega,?_⟩;refine zm zlW (hdr fZ) (o:=0+187+(R.many+1)*1) (v:=s32 (S.data (R.many+1)|||S.att (R.many+1))) rfl rfl (by rw [jB];omega) rfl fun V fV gV sV=>?_;rw [UM,US,zet _ (by omega)] at fV;refine⟨rfl,?_,zd (zi hb) (zd (zi hbY) (zd gZ (zd (gd Z) gV)))⟩;rw [hS] at fV;exact fV
theorem znS (f:jw w b R) (hs:RunS R) (hd:x.dst.toNat<8) (ha:x.ar=true->x.an.toNat<8) (hc:x.br=true->x.bn.toNat<8):Calls PG 201 #[AtR b,zcu x,u8 v] w fun e w' =>
  e = .returned (.tuple #[])/\jw w' b (zpx R x)/\w.grownBy w' (some b):=by
 refine qk 47 [AtR b,zcu x,u8 v] (.s .p (.s .p (.s .p (.c .p .p)))) Tryz.func201 ?_;have f0:=zy w (.cells (zA.enc x).toArray 55);have hb:Bw w (w.alloc (.cells (zA.enc x).toArray 55)):=zba w _;have fr:=zb hb f;refine⟨[.bool x.ar,u8 x.an],rfl,qI (o:=3) (n:=2) f0,hlt f0,?_⟩;refine cmo (zbz fr ha) ?_;rintro e Y ⟨rfl,hbY⟩;have f0Y:=zb hbY f0;have fY:=zb hbY fr;refine⟨[.bool x.br,u8 x.bn],rfl,qI (o:=5) (n:=2) f0Y,hlt f0Y,?_⟩;refine cmo (zbz fY hc) ?_;rintro e Z ⟨rfl,hbZ⟩;have f0Z:=zb hbZ f0Y;have fZ:=zb hbZ fY;obtain⟨A,hA⟩:=nm (qt x.ar x.an R);obtain⟨C,hC⟩:=nm (qt x.br x.bn R);rw [<- hA,<- hC];refine⟨Unit,fun _=>⟨[(0,AtR b),(4,At0 w.heap.size),(6,u8 (ziG x.fn A.1 C.1)),(7,s32 A.2),(9,s32 C.2)],[]⟩,fun _ X=>X=Z,?_,?_⟩
 ·refine⟨_,zc (za f0Z) (i:=7) rfl,?_⟩;refine biE (fun h=>?_) fun h=>?_
  ·have h:x.fn=1:=dT ((zcW (x:=x.fn) (y:=1)).symm.trans h);refine⟨_,zsv _ _,?_⟩;exact⟨(),⟨.cons rfl (.cons rfl (.cons (by unfold ziG;rw [Gi h];rfl) (.cons rfl (.cons rfl .nil)))),rfl⟩,rfl⟩
  ·have h:¬ x.fn=1:=dF ((zcW (x:=x.fn) (y:=1)).symm.trans h);refine biE (fun k=>?_) fun k=>?_
   ·have k:x.fn=2:=dT ((zcW (x:=x.fn) (y:=2)).symm.trans k);refine⟨_,zt0 _ _,?_⟩;exact⟨(),⟨.cons rfl (.cons rfl (.cons (by unfold ziG;rw [Gh h,Gi k];rfl) (.cons rfl (.cons rfl .nil)))),rfl⟩,rfl⟩
   ·have k:¬ x.fn=2:=dF ((zcW (x:=x.fn) (y:=2)).symm.trans k);refine⟨_,ztZ _ _,?_⟩;exact⟨(),⟨.cons rfl (.cons rfl (.cons (by unfold ziG;rw [Gh h,Gh k];rfl) (.cons rfl (.cons rfl .nil)))),rfl⟩,rfl⟩
 rintro _ _ rfl;refine⟨_,zc (za f0Z) (i:=1) rfl,?_⟩;refine⟨_,ze4 (by rw [hA];exact hs.val _ _) (by rw [hC];exact hs.val _ _),?_⟩;refine cmo (zmA (d:=x.dst) (v:=ziG x.fn A.1 C.1) (s:=A.2|||C.2) fZ hd) ?_;rintro e U ⟨rfl,fU,gU,sU⟩;refine⟨rfl,?_,zd (zi hb) (zd (zi hbY) (zd (zi hbZ) gU))⟩;rw [hA,hC] at fU;exact fU
theorem zpc (f:jw w b R) (hs:RunS R) (hm:R.many<23) (hd:x.dst.toNat<8) (ha:x.ar=true->x.an.toNat<8) (hc:x.br=true->x.bn.toNat<8):Calls PG 204 #[AtR b,zcu x,u8 v] w fun e w' =>
  e = .returned (.tuple #[])/\jw w' b (zc4 R x v)/\w.grownBy w' (some b):=by
 refine zF 65 [AtR b,zcu x,u8 v] Tryz.func204 ?_;have f0:=zy w (.cells (zA.enc x).toArray 55);have hb:Bw w (w.alloc (.cells (zA.enc x).toArray 55)):=zba w _;have fr:=zb hb f;refine⟨[.bool x.ar,u8 x.an],rfl,qI (o:=3) (n:=2) f0,hlt f0,?_⟩;refine cmo (zbz fr ha) ?_;rintro e Y ⟨rfl,hbY⟩;have f0Y:=zb hbY f0;have fY:=zb hbY fr;refine⟨[.bool x.br,u8 x.bn],rfl,qI (o:=5) (n:=2) f0Y,hlt f0Y,?_⟩;refine cmo (zbz fY hc) ?_;rintro e Z ⟨rfl,hbZ⟩;have f0Z:=zb hbZ f0Y;have fZ:=zb hbZ fY;have gd:∀ Z:Wd,Z.grownBy Z.drew (some b):=fun Z=>⟨rfl,rfl,rfl,UR _,fun _ _ _=>rfl⟩;have gZ:w.grownBy Z (some b):=zd (zi hb) (zd (zi hbY) (zi hbZ));have hne:w.heap.size≠b:=fun e=>by have:=hlt f;omega
 obtain⟨A,hA⟩:=nm (qt x.ar x.an R);obtain⟨C,hC⟩:=nm (qt x.br x.bn R);have hA2:A.2<2^32:=by rw [hA];exact hs.val _ _
 have hC2:C.2<2^32:=by rw [hC];exact hs.val _ _
 rw [<- hA,<- hC];refine biE (fun h=>?_) fun h=>?_
 ·have h:¬ v=A.1:=fun e=>by rw [e] at h;have h:(!decide (((A.1.toNat:Nat):Int)=((A.1.toNat:Nat):Int)))=true:=h;simp at h
  refine⟨_,zc (za f0Z) (i:=2) rfl,?_⟩;refine cmo (zfs (k:=1) (l:=x.loc) (v:=v) (m:=3) (d:=0) fZ (by omega)) ?_;rintro e U ⟨rfl,fU,gU,sU⟩;have f0U:=(gU.block w.heap.size (hlt f0Z) (by simpa using hne)).trans f0Z;refine DrawE.ord [6] [0,1,2,3,4,5,6] (by kernel_rfl) ?_;refine⟨_,zc (za (hdr f0U)) (i:=1) rfl,?_⟩;refine⟨by omega,_,zf4 (e:=R.many) (by omega),?_⟩;refine cmo (zmA (d:=x.dst) (v:=v) (s:=2^R.many) (hdr fU) hd) ?_;rintro e V ⟨rfl,fV,gV,sV⟩;refine⟨rfl,?_,zd gZ (zd gU (zd (gd U) gV))⟩;unfold zc4;rw [Gh (by rw [<- hA];exact h)];exact fV
 ·have h:v=A.1:=by
   have h:(!decide (((v.toNat:Nat):Int)=((A.1.toNat:Nat):Int)))=false:=h;rw [zcW,Bool.not_eq_false',dE] at h;exact h
  refine⟨zA.enc x,rfl,za f0Z,hlt f0Z,?_⟩;refine cmo (zl6 (x:=x) (o:=v) (v:=C.1) (d:=C.2) fZ hm hd) ?_;rintro e U ⟨rfl,fU,gU⟩;obtain⟨S,hS⟩:=nm (zby R x v C.1 C.2);have sS:RunS S:=by rw [hS];exact hs.exch (by omega) hC2
  rw [<- hS] at fU;refine DrawE.ord [18] [0,1,2,3,4,5,6,7,8,9,10,11,12,13,14,15,16,17,18] (by kernel_rfl) ?_;refine⟨R.many+1,rfl,by omega,?_⟩;refine⟨_,by rw [US,Uz];exact zc (za (hdr fU)) (zj3 S (i:=R.many+1) (by omega)),?_⟩;refine⟨R.many+1,rfl,by omega,?_⟩;refine⟨_,by rw [US,Uz];exact zc (za (hdr fU)) (ziZ S (i:=R.many+1) (by omega)),?_⟩;refine⟨_,ze4 (sS.s _).2.2 hA2,?_⟩;refine⟨_,ze4 (sS.s _).2.1 (zkp (sS.s _).2.2 hA2),?_⟩;refine⟨R.many+1,rfl,by omega,?_⟩;refine zm zlW (hdr fU) (o:=0+211+(R.many+1)*1) (v:=s32 (S.ctrl (R.many+1)|||(S.att (R.many+1)|||A.2))) rfl rfl (by rw [jB];omega) rfl fun V fV gV sV=>?_;rw [UM,US,zeu _ (by omega)] at fV;refine⟨rfl,?_,zd gZ (zd gU (zd (gd U) gV))⟩;unfold zc4;rw [Gi (by rw [<- hA];exact h),<- hA,<- hC,<- hS];exact fV
theorem znQ (f:jw w b R) (hs:RunS R) (hp:R.pc<=1000) (ha:x.ar=true->x.an.toNat<8) (hc:x.br=true->x.bn.toNat<8):Calls PG 206 #[AtR b,zcu x,u8 v] w fun e w' =>
  e = .returned (.tuple #[])/\jw w' b (zbY R x)/\w.grownBy w' (some b):=by
 refine qk 61 [AtR b,zcu x,u8 v] (.s .p (.s .p (.c .p (.c .p (.s .p (.c .p .p)))))) Tryz.func206 ?_;have f0:=zy w (.cells (zA.enc x).toArray 55);have hb:Bw w (w.alloc (.cells (zA.enc x).toArray 55)):=zba w _;have fr:=zb hb f;have hne:w.heap.size≠b:=fun e=>by have:=hlt f;omega
 refine⟨[.bool x.ar,u8 x.an],rfl,qI (o:=3) (n:=2) f0,hlt f0,?_⟩;refine cmo (zbz fr ha) ?_;rintro e Y ⟨rfl,hbY⟩;have f0Y:=zb hbY f0;have fY:=zb hbY fr;have gd:∀ Z:Wd,Z.grownBy Z.drew (some b):=fun Z=>⟨rfl,rfl,rfl,UR _,fun _ _ _=>rfl⟩;obtain⟨A,hA⟩:=nm (qt x.ar x.an R);obtain⟨C,hC⟩:=nm (qt x.br x.bn R);have hA2:A.2<2^32:=by rw [hA];exact hs.val _ _
 have hC2:C.2<2^32:=by rw [hC];exact hs.val _ _
 refine⟨Unit,fun _=>⟨[(0,AtR b),(4,At0 w.heap.size),(6,u8 A.1),(7,s32 A.2),(8,u8 C.1),(9,s32 C.2)],[]⟩,fun _ X=>Bw Y X,?_,?_⟩
 ·refine⟨[.bool x.br,u8 x.bn],rfl,qI (o:=5) (n:=2) f0Y,hlt f0Y,?_⟩;refine cmo (zbz fY hc) ?_;rintro e Z ⟨rfl,hbZ⟩;rw [<- hA,<- hC];exact⟨(),(cvE rfl rfl),hbZ⟩
 rintro _ Z hbZ;have f0Z:=zb hbZ f0Y;have fZ:=zb hbZ fY;obtain⟨S,hS⟩:∃ S:RunD,S={ R with ctl:=R.ctl|||(A.2|||C.2) }:=⟨_,rfl⟩;have hpc:S.pc=R.pc:=by rw [hS]
 refine⟨Unit,fun _=>⟨[(0,AtR b),(4,At0 w.heap.size),(6,u8 A.1),(8,u8 C.1)],[]⟩,fun _ X=>jw X b S/\X.heap[w.heap.size]?=some (.cells (zA.enc x).toArray 55 (0,0))/\w.grownBy X (some b),?_,?_⟩
 ·refine⟨_,zc (za fZ) (i:=17) (zmC R),?_⟩;refine⟨_,ze4 hA2 hC2,?_⟩;refine⟨_,ze4 hs.c (zkp hA2 hC2),?_⟩;refine zm zlW fZ (o:=0+17) (v:=s32 (R.ctl|||(A.2|||C.2))) rfl rfl (by rw [jB];decide) rfl fun V fV gV sV=>?_;rw [UM,zj0] at fV;exact⟨(),(cvE rfl rfl),by rw [hS];exact fV,(gV.block w.heap.size (hlt f0Z) (by simpa using hne)).trans f0Z,zd (zi hb) (zd (zi hbY) (zd (zi hbZ) gV))⟩
 clear f0 fr f0Y fY f0Z fZ hb hbY hbZ;rintro _ V ⟨fV,f0V,gV'⟩;refine⟨Unit,fun _=>⟨[(0,AtR b),(4,At0 w.heap.size),(10,.bool (zjT x.fn A.1 C.1))],[]⟩,fun _ X=>X=V,?_,?_⟩
 ·refine⟨_,zc (za f0V) (i:=7) rfl,?_⟩;refine biE (fun h=>?_) fun h=>?_
  ·have h:x.fn=4:=dT ((zcW (x:=x.fn) (y:=4)).symm.trans h);exact⟨(),⟨.cons rfl (.cons rfl (.cons (by unfold zjT;rw [Gi h,<- zcW];rfl) .nil)),rfl⟩,rfl⟩
  ·have h:¬ x.fn=4:=dF ((zcW (x:=x.fn) (y:=4)).symm.trans h);refine biE (fun k=>?_) fun k=>?_
   ·have k:x.fn=5:=dT ((zcW (x:=x.fn) (y:=5)).symm.trans k);exact⟨(),⟨.cons rfl (.cons rfl (.cons (by unfold zjT;rw [Gh h,Gi k,<- zcW];rfl) .nil)),rfl⟩,rfl⟩
   ·have k:¬ x.fn=5:=dF ((zcW (x:=x.fn) (y:=5)).symm.trans k);exact⟨(),⟨.cons rfl (.cons rfl (.cons (by unfold zjT;rw [Gh h,Gh k,<- zrg];rfl) .nil)),rfl⟩,rfl⟩
 rintro _ _ rfl;refine biE (fun h=>?_) fun h=>?_
 ·refine DrawE.ord [10] [0,1,2,3,4,5,6,7,8,9,10] (by kernel_rfl) ?_;refine⟨_,zc (za (hdr fV)) (i:=0) rfl,?_⟩;refine⟨_,zc (za (hdr f0V)) (i:=9) rfl,?_⟩;have hk:=x.skip.toNat_lt;refine⟨_,ze (by omega),?_⟩;refine⟨((S.pc+x.skip.toNat:Nat):Int),(ze (by omega)).trans rfl,?_⟩;refine zm k3 (hdr fV) (o:=0+0) (v:=i64 (S.pc+x.skip.toNat:Nat)) rfl rfl (by rw [jB];decide) rfl fun U fU gU sU=>?_;rw [UM,zgA] at fU;refine⟨rfl,?_,zd gV' (zd (gd _) gU)⟩;unfold zbY;rw [<- hA,<- hC,Gi h];rw [hS] at fU;exact fU
 ·refine⟨rfl,?_,gV'⟩;unfold zbY;rw [<- hA,<- hC,Gh (by rw [h];decide)];rw [hS] at fV;exact fV
end
def ExG (x:InsD):Prop :=
 (x.op=1/\x.dst.toNat<8)\/(x.op=2/\(x.ar=true->x.an.toNat<8))\/(x.op=3/\x.dst.toNat<8/\(x.ar=true->x.an.toNat<8)/\(x.br=true->x.bn.toNat<8))\/(x.op=4/\x.dst.toNat<8/\(x.ar=true->x.an.toNat<8))\/(x.op=5/\x.dst.toNat<8/\(x.ar=true->x.an.toNat<8))\/(x.op=6/\x.dst.toNat<8/\(x.ar=true->x.an.toNat<8)/\(x.br=true->x.bn.toNat<8))\/x.op=7\/(x.op=8/\(x.ar=true->x.an.toNat<8)/\(x.br=true->x.bn.toNat<8))
theorem zU {x:InsD} {R:RunD} {v:UInt8}:(x.op=1->zdo R x v=zpD R x v)/\(x.op=2->zdo R x v=zls R x)/\(x.op=3->zdo R x v=zpx R x)/\(x.op=4->zdo R x v=zo0 R x v)/\(x.op=5->zdo R x v=zfq R x v)/\(x.op=6->zdo R x v=zc4 R x v)/\(x.op=7->zdo R x v=zl5 R x)/\(x.op=8->zdo R x v=zbY R x):=by
 unfold zdo;refine⟨fun h=>?_,fun h=>?_,fun h=>?_,fun h=>?_,fun h=>?_,fun h=>?_,fun h=>?_,fun h=>?_⟩ <;> rw [h] <;> rfl
theorem zmy {R:RunD} {x:InsD}:(zbY R x).pc<=R.pc+255/\(zbY R x).many=R.many/\(zbY R x).pc<=R.pc+x.skip.toNat:=by
 have:=x.skip.toNat_lt;unfold zbY;dsimp only
 split
 ·exact⟨by dsimp only;omega,rfl,UR _⟩
 ·exact⟨by dsimp only;omega,rfl,by dsimp only;omega⟩
theorem zqj {R:RunD} {x:InsD} {v:UInt8}:(zc4 R x v).pc=R.pc/\R.many+1<=(zc4 R x v).many/\(zc4 R x v).many<=R.many+2:=by
 unfold zc4
 split
 ·exact⟨rfl,Nat.le_succ _,UR _⟩
 ·exact⟨rfl,UR _,Nat.le_succ _⟩
section
variable {R:RunD} {b:Nat} {w:Wd}
theorem zhq {x:InsD} {v:UInt8} (f:jw w b R) (hs:RunS R) (hm:R.many<23) (hp:R.pc<=1000) (hx:ExG x):Calls PG 177 #[AtR b,zcu x,u8 v] w fun e w' =>
  e = .returned (.tuple #[])/\jw w' b (qh R x v)/\w.grownBy w' (some b):=by
 refine zF 21 [AtR b,zcu x,u8 v] Tryz.func177 ?_;have f0:=zy w (.cells (zA.enc x).toArray 55);obtain⟨W1,hW1⟩:=nm ((w.alloc (.cells (zA.enc x).toArray 55)).drew);have hb:Bw w W1:=by rw [hW1];exact ((zba w _)).drew
 have fr:jw W1 b R:=zb hb f;have f0:W1.heap[w.heap.size]?=some (.cells (zA.enc x).toArray 55 (0,0)):=by rw [hW1];exact f0
 have hW1':(w.alloc (.cells (Value.agg (zA.enc x).toArray).cells 55)).drew=W1:=hW1.symm;refine DrawE.ord [7] [1,2,4,5,6,0,3,7] (by kernel_rfl) ?_;rw [hW1'];refine⟨_,zc (za f0) (i:=0) rfl,zA.enc x,rfl,za f0,hlt f0,cmo zoo ?_⟩;rintro e Y ⟨rfl,hbY⟩;refine⟨hbY,?_⟩;have fY:=zb hbY fr;have gY:w.grownBy Y (some b):=zd (zi hb) (zi hbY);have fin:∀ {S:RunD} {Z:Wd},jw Z b S->Y.grownBy Z (some b)->S.pc<=2000->zdo R x v=S->∃ u,Z.cell? ⟨b,0+0,none⟩=some u/\zsf PG .add 3 (.tmp 17) (.const (i64 1)) u (i64 1) (fun v18=>SatR ((storeVar 3 ⟨b,0+0,none⟩ v18).run PG Z) fun _ w'=>(Ending.returned (.tuple #[])=Ending.returned (.tuple #[]))/\jw w' b (qh R x v)/\w.grownBy w' (some b)):=by
  intro S Z fZ gZ hpc he;have he:qh R x v={ S with pc:=S.pc+1 }:=by unfold qh;rw [he]
  refine⟨_,zc (za fZ) (i:=0) rfl,((S.pc+1:Nat):Int),(ze (by show _<=((S.pc:Nat):Int)+1/\((S.pc:Nat):Int)+1<=_;omega)).trans rfl,zm k3 fZ (o:=0+0) (v:=i64 (S.pc+1:Nat)) rfl rfl (by rw [jB];decide) rfl fun V fV gV sV=>?_⟩;rw [UM,zgA] at fV;rw [he];exact⟨rfl,fV,zd gY (zd gZ gV)⟩
 rcases hx with ⟨h1,h2⟩ | ⟨h1,h2⟩ | ⟨h1,h2,h3,h4⟩ | ⟨h1,h2,h3⟩ | ⟨h1,h2,h3⟩ | ⟨h1,h2,h3,h4⟩ | h1 | ⟨h1,h2,h3⟩
 ·refine⟨1,by rw [h1];rfl,by decide,?_⟩;refine zay (v:=fnV 199) rfl (cmo (znT fY (by omega) h2) ?_);rintro e Z ⟨rfl,fZ,gZ⟩;exact fin fZ gZ (show R.pc<=2000 by omega) (zU.1 h1)
 ·refine⟨2,by rw [h1];rfl,by decide,?_⟩;refine zay (v:=fnV 200) rfl (cmo (zlz fY (by omega) h2) ?_);rintro e Z ⟨rfl,fZ,gZ⟩;exact fin fZ gZ (show R.pc<=2000 by omega) (zU.2.1 h1)
 ·refine⟨3,by rw [h1];rfl,by decide,?_⟩;refine zay (v:=fnV 201) rfl (cmo (znS fY hs h2 h3 h4) ?_);rintro e Z ⟨rfl,fZ,gZ⟩;exact fin fZ gZ (show R.pc<=2000 by omega) (zU.2.2.1 h1)
 ·refine⟨4,by rw [h1];rfl,by decide,?_⟩;refine zay (v:=fnV 202) rfl (cmo (znP fY hm h2 h3) ?_);rintro e Z ⟨rfl,fZ,gZ⟩;exact fin fZ gZ (show R.pc<=2000 by omega) (zU.2.2.2.1 h1)
 ·refine⟨5,by rw [h1];rfl,by decide,?_⟩;refine zay (v:=fnV 203) rfl (cmo (zlA fY hs hm h2 h3) ?_);rintro e Z ⟨rfl,fZ,gZ⟩;exact fin fZ gZ (show R.pc<=2000 by omega) (zU.2.2.2.2.1 h1)
 ·refine⟨6,by rw [h1];rfl,by decide,?_⟩;refine zay (v:=fnV 204) rfl (cmo (zpc fY hs hm h2 h3 h4) ?_);rintro e Z ⟨rfl,fZ,gZ⟩;exact fin fZ gZ (by rw [zqj.1];omega) (zU.2.2.2.2.2.1 h1)
 ·refine⟨7,by rw [h1];rfl,by decide,?_⟩;refine zay (v:=fnV 205) rfl (cmo (zlB fY (by omega)) ?_);rintro e Z ⟨rfl,fZ,gZ⟩;exact fin fZ gZ (show R.pc<=2000 by omega) (zU.2.2.2.2.2.2.1 h1)
 ·refine⟨8,by rw [h1];rfl,by decide,?_⟩;refine zay (v:=fnV 206) rfl (cmo (znQ fY hs hp h2 h3) ?_);rintro e Z ⟨rfl,fZ,gZ⟩;exact fin fZ gZ (by have:=(zmy (R:=R) (x:=x)).1;omega) (zU.2.2.2.2.2.2.2 h1)
end
theorem znR {R:RunD} {x:InsD} {v:UInt8} (hs:RunS R) (hm:R.many<31) (hx:ExG x):RunS (qh R x v):=by
 have fin:∀ S:RunD,RunS S->zdo R x v=S->RunS (qh R x v):=fun S h e=>by
  unfold qh;rw [e];exact⟨h.d,h.c,h.s⟩
 have ex:∀ {o a:UInt8} {d:Nat},d<2^32->RunS (zby R x o a d):=fun hd=>hs.exch (by omega) hd;rcases hx with ⟨h1,-⟩ | ⟨h1,-⟩ | ⟨h1,-⟩ | ⟨h1,-⟩ | ⟨h1,-⟩ | ⟨h1,-⟩ | h1 | ⟨h1,-⟩
 ·exact fin _ ((hs.emit (by decide)).set (zmN (by omega))) (zU.1 h1)
 ·exact fin _ (hs.emit (hs.val _ _)) (zU.2.1 h1)
 ·exact fin _ (hs.set (zkp (hs.val _ _) (hs.val _ _))) (zU.2.2.1 h1)
 ·exact fin _ (ex (hs.val _ _)) (zU.2.2.2.1 h1)
 ·refine fin (zfq R x v) ?_ (zU.2.2.2.2.1 h1);have h:=ex (o:=v) (a:=v+(qt x.ar x.an R).1) (hs.val x.ar x.an);exact⟨h.d,h.c,fun i=>⟨ze5 (fun i=>(h.s i).1) (zkp (h.s _).1 (h.s _).2.2) i,(h.s i).2⟩⟩
 ·refine fin (zc4 R x v) ?_ (zU.2.2.2.2.2.1 h1);unfold zc4
  split
  ·have h:=ex (o:=v) (a:=(qt x.br x.bn R).1) (hs.val x.br x.bn);exact⟨h.d,h.c,fun i=>⟨(h.s i).1,ze5 (fun i=>(h.s i).2.1) (zkp (h.s _).2.1 (zkp (h.s _).2.2 (hs.val _ _))) i,(h.s i).2.2⟩⟩
  ·exact (hs.emit (by decide)).set (zmN (by omega))
 ·exact fin _ (hs.emit (by decide)) (zU.2.2.2.2.2.2.1 h1)
 ·refine fin (zbY R x) ?_ (zU.2.2.2.2.2.2.2 h1);have h:RunS { R with ctl:=R.ctl|||((qt x.ar x.an R).2|||(qt x.br x.bn R).2) }:=⟨hs.d,zkp hs.c (zkp (hs.val _ _) (hs.val _ _)),hs.s⟩;unfold zbY;dsimp only
  split
  ·exact⟨h.d,h.c,h.s⟩
  ·exact h
theorem zsS:RunS zi0:=⟨fun _=>(by decide:0<2^32),by decide,fun _=>⟨(by decide:0<2^32),(by decide:0<2^32),(by decide:0<2^32)⟩⟩
theorem znL {α:Type} {E:Enc α} {w X:Wd} {q:OA} {l:List α} {b:Nat} (h:SlR E w q l) (hq:∀ a,q=some a->a.block≠b) (g:w.grownBy X (some b)):SlR E X q l:=by
 rcases h with h | ⟨b',o,h1,h2,h3⟩
 ·exact .inl h
 ·refine .inr ⟨b',o,h1,nL h2 g.size,fun i hi=>js (g.block b' h2 (fun e=>hq _ h1 (by cases e;rfl))) (h3 i hi)⟩
theorem zpP {l:List InsD} {R:RunD} (h:l[R.pc]?=none):∀ n,goR l n R=R
 | 0=>rfl
 | n+1=>by unfold goR;rw [h]
theorem zrx {l:List InsD} {R:RunD} {x:InsD} (h:l[R.pc]?=some x) (hr:zbK x=true):∀ n,goR l n R=R
 | 0=>rfl
 | n+1=>by unfold goR;rw [h];simp only [hr,Gg]
theorem zrw {l:List InsD} {R:RunD} {x:InsD} (h:l[R.pc]?=some x) (hr:zbK x=false) (n:Nat):goR l (n+1) R=goR l n (qh R x 0):=by
 show (match l[R.pc]? with | none=>R | some x=>if zbK x then R else goR l n (qh R x 0))=_;rw [h];simp only [hr,Kr,Ge]
def ThG (l:List InsD):Prop:=l.length<=12/\∀ i x,l[i]?=some x->ExG x/\(x.op=8->x.skip.toNat<=l.length-1-i)
theorem zjk {x:InsD} {k n:Nat} (h:zhU x k n=true):ExG x/\(x.op=8->x.skip.toNat<=n)/\(x.op=1\/x.op=2\/x.op=4\/x.op=5\/x.op=6->x.loc.toNat<k):=by
 unfold zhU qT at h;simp only [Uv,List.all_nil,id_eq,Bool.and_true,bAT,dE,QC] at h;obtain⟨⟨h1,h8⟩,-,hd,hl,⟨ha,hb⟩,-,-,hs⟩:=h;have arg:∀ {r:Bool} {n:UInt8},zjA r n=true->r=true->n.toNat<8:=fun {r n} h hr=>by
  subst hr;unfold zjA at h;simpa using h
 have ha:=arg ha;have hb:=arg hb;have key:∀ i,1<=i->i<=8->UInt8.ofNat i=1\/UInt8.ofNat i=2\/UInt8.ofNat i=3\/UInt8.ofNat i=4\/UInt8.ofNat i=5\/UInt8.ofNat i=6\/UInt8.ofNat i=7\/UInt8.ofNat i=8:=by
  intro i a b;have:i=1\/i=2\/i=3\/i=4\/i=5\/i=6\/i=7\/i=8:=by omega
  rcases this with e | e | e | e | e | e | e | e <;> subst e <;> decide
 have hop:=key x.op.toNat h1 h8;rw [UInt8.ofNat_toNat] at hop;refine⟨?_,fun e=>?_,fun e=>?_⟩
 ·unfold ExG;rcases hop with e | e | e | e | e | e | e | e
  ·exact .inl ⟨e,hd⟩
  ·exact .inr (.inl ⟨e,ha⟩)
  ·exact .inr (.inr (.inl ⟨e,hd,ha,hb⟩))
  ·exact .inr (.inr (.inr (.inl ⟨e,hd,ha⟩)))
  ·exact .inr (.inr (.inr (.inr (.inl ⟨e,hd,ha⟩))))
  ·exact .inr (.inr (.inr (.inr (.inr (.inl ⟨e,hd,ha,hb⟩)))))
  ·exact .inr (.inr (.inr (.inr (.inr (.inr (.inl e))))))
  ·exact .inr (.inr (.inr (.inr (.inr (.inr (.inr ⟨e,ha,hb⟩))))))
 ·rw [e] at hs;rcases hs with hs | hs
  ·exact Gj hs (by decide)
  ·exact hs.2
 ·rcases hl with hl | hl
  ·rcases e with e | e | e | e | e <;> rw [e] at hl <;> exact Gj hl (by decide)
  ·exact hl
theorem ziR {l:List InsD} {k:Nat} (h:qy l k=true):ThG l:=by
 unfold qy at h;rw [bAT,dE,Qg] at h;refine⟨h.1,fun i x hi=>?_⟩;have hil:i<l.length:=(Jr.1 hi).1;have:=h.2 i (Uj.2 hil);rw [hi] at this;exact⟨(zjk this).1,(zjk this).2.1⟩
structure RunOk (l:List InsD) (R:RunD):Prop where
 m:R.many<=2*R.pc
 p:R.pc<=l.length
 s:RunS R
theorem zmD (l:List InsD):RunOk l zi0:=⟨UR _,UU _,zsS⟩
theorem zeS {l:List InsD} {S:RunD} {x:InsD} {v:UInt8} (ht:ThG l) (h:RunOk l S) (hx:l[S.pc]?=some x):RunOk l (qh S x v)/\S.pc+1<=(qh S x v).pc:=by
 obtain⟨hx1,hx8⟩:=ht.2 _ _ hx;have hpl:S.pc<l.length:=(Jr.1 hx).1;have hm:=h.m;have h12:=ht.1;have hs:=znR (v:=v) h.s (by omega) hx1;have fin:∀ T:RunD,zdo S x v=T->T.many<=2*T.pc+2->S.pc<=T.pc->T.pc+1<=l.length->RunOk l (qh S x v)/\S.pc+1<=(qh S x v).pc:=fun T e h1 h2 h3=>by
  have e2:qh S x v={ T with pc:=T.pc+1 }:=by unfold qh;rw [e]
  refine⟨⟨?_,?_,hs⟩,?_⟩
  ·rw [e2];dsimp only;omega
  ·rw [e2];exact h3
  ·rw [e2];dsimp only;omega
 rcases hx1 with ⟨e,-⟩ | ⟨e,-⟩ | ⟨e,-⟩ | ⟨e,-⟩ | ⟨e,-⟩ | ⟨e,-⟩ | e | ⟨e,-⟩
 ·exact fin _ (zU.1 e) (show S.many+1<=2*S.pc+2 by omega) (UR _) hpl
 ·exact fin _ (zU.2.1 e) (show S.many+1<=2*S.pc+2 by omega) (UR _) hpl
 ·exact fin _ (zU.2.2.1 e) (show S.many<=2*S.pc+2 by omega) (UR _) hpl
 ·exact fin _ (zU.2.2.2.1 e) (show S.many+1+1<=2*S.pc+2 by omega) (UR _) hpl
 ·exact fin _ (zU.2.2.2.2.1 e) (show S.many+1+1<=2*S.pc+2 by omega) (UR _) hpl
 ·obtain⟨c1,c2,c3⟩:=zqj (R:=S) (x:=x) (v:=v);exact fin _ (zU.2.2.2.2.2.1 e) (by omega) (by omega) (by omega)
 ·exact fin _ (zU.2.2.2.2.2.2.1 e) (show S.many+1<=2*S.pc+2 by omega) (UR _) hpl
 ·obtain⟨c1,c2,c3⟩:=zmy (R:=S) (x:=x);have h8:=hx8 e;have hge:S.pc<=(zbY S x).pc:=by
   unfold zbY;dsimp only
   split
   ·exact Qv _ _
   ·exact UR _
  exact fin _ (zU.2.2.2.2.2.2.2 e) (by omega) hge (by omega)
theorem zn1 {x:InsD} (hx:ExG x):((x.op=1\/x.op=4\/x.op=5\/x.op=6)/\zbK x=true)\/((x.op≠1/\x.op≠4/\x.op≠5/\x.op≠6)/\zbK x=false):=by
 by_cases h:x.op=1\/x.op=4\/x.op=5\/x.op=6
 ·refine .inl ⟨h,?_⟩;unfold zbK;rcases h with e | e | e | e <;> rw [e] <;> rfl
 ·have h1:x.op≠1:=fun e=>h (.inl e);have h4:x.op≠4:=fun e=>h (.inr (.inl e));have h5:x.op≠5:=fun e=>h (.inr (.inr (.inl e)));have h6:x.op≠6:=fun e=>h (.inr (.inr (.inr e)));refine .inr ⟨⟨h1,h4,h5,h6⟩,?_⟩;unfold zbK;rw [Uc h1,Uc h4,Uc h5,Uc h6];rfl
section
variable {R:RunD} {b:Nat} {w:Wd} {l:List InsD} {q:OA} {cap:Nat}
theorem zgG (f:jw w b R) (hl:SlR zA w q l) (hq:l≠[]->∀ a,q=some a->a.block≠b) (ht:ThG l) (hR:RunOk l R) :
  Calls PG 176 #[AtR b,.slice q l.length cap] w fun e w'=>e = .returned (.bool (l[(goR l l.length R).pc]?).isSome)/\jw w' b (goR l l.length R)/\w.grownBy w' (some b)/\RunOk l (goR l l.length R)/\R.pc<=(goR l l.length R).pc:=by
 refine zF 34 [AtR b,.slice q l.length cap] Tryz.func176 ?_;have h12:=ht.1;refine⟨RunD×Nat,fun s=>⟨[(0,AtR b),(1,.slice q l.length cap)],[]⟩,
  fun s X=>(goR l l.length R=goR l s.2 s.1/\l.length<=s.2+s.1.pc/\RunOk l s.1/\R.pc<=s.1.pc)/\jw X b s.1/\w.grownBy X (some b),fun s=>l.length-s.1.pc,(R,l.length),
  (cvE rfl rfl),⟨⟨rfl,by omega,hR,UR _⟩,f,qg w _⟩,?_⟩
 rintro⟨S,n⟩ X ⟨⟨he,hn,hS,hpp⟩,fX,gX⟩;dsimp only at he hn hS hpp fX ⊢;refine⟨_,zc (za fX) (i:=0) rfl,biE (fun hc=>?_) fun hc=>?_⟩
 ·have hc:(S.pc:Int)<(l.length:Int):=dT hc;have hi:S.pc<l.length:=by omega
  have hm:=hS.m;obtain⟨n,rfl⟩:∃ n',n=n'+1:=⟨n-1,by omega⟩;obtain⟨bq,oq,rfl,hlq,hat⟩:=(znL hl (hq (List.ne_nil_of_length_pos (by omega))) gX).at hi;have hg:l[S.pc]?=some l[S.pc]:=gE hi;have hxi:=(ht.2 _ _ hg).1;refine⟨_,zc (za fX) (i:=0) rfl,S.pc,rfl,hi,_,zc (hat S.pc hi) (i:=0) rfl,?_⟩;have no:∀ k:UInt8,l[S.pc].op≠k->decide (((l[S.pc].op).toNat:Int)=(k.toNat:Int))=false:=fun k hk=>Uc fun e=>hk (qq.1 e);rcases zn1 hxi with ⟨ho,hr⟩ | ⟨⟨o1,o4,o5,o6⟩,hr⟩
  ·have e1:goR l l.length R=S:=he.trans (zrx hg hr _);have fin:∀ {u:Bool},u=true->(Ending.returned (.bool u)=Ending.returned (.bool (l[(goR l l.length R).pc]?).isSome)/\jw X b (goR l l.length R)/\w.grownBy X (some b)/\RunOk l (goR l l.length R)/\R.pc<=(goR l l.length R).pc):=fun hu=>by
    rw [e1,hg,hu];exact⟨rfl,fX,gX,hS,hpp⟩
   rcases ho with ho | ho | ho | ho
   ·exact brE (by rw [ho];rfl) (brE (by rw [ho];rfl) (fin rfl))
   ·exact brN (no 1 (by rw [ho];decide)) (brE (by rw [ho];rfl) (brE (by rw [ho];rfl) (fin rfl)))
   ·exact brN (no 1 (by rw [ho];decide)) (brN (no 4 (by rw [ho];decide)) (brE (by rw [ho];rfl) (brE (by rw [ho];rfl) (fin rfl))))
   ·exact brN (no 1 (by rw [ho];decide)) (brN (no 4 (by rw [ho];decide)) (brN (no 5 (by rw [ho];decide)) (brE (by rw [ho];rfl) (fin rfl))))
  ·refine brN (no 1 o1) (brN (no 4 o4) (brN (no 5 o5) (brN (no 6 o6) ⟨_,zc (za fX) (i:=0) rfl,S.pc,rfl,hi,zA.enc l[S.pc],rfl,hat S.pc hi,hlq,cmo (zhq (v:=0) fX hS.s (by omega) (by omega) hxi) ?_⟩)));rintro e Y ⟨rfl,fY,gY⟩;obtain⟨x1,x2⟩:=zeS (v:=0) ht hS hg;exact⟨(qh S l[S.pc] 0,n),(cvE rfl rfl),⟨⟨he.trans (zrw hg hr n),by dsimp only;omega,x1,by dsimp only;omega⟩,fY,zd gX gY⟩,by dsimp only;omega⟩
 ·have hc:¬ (S.pc:Int)<(l.length:Int):=dF hc;have hg:l[S.pc]?=none:=JJ (by omega);have e1:goR l l.length R=S:=he.trans (zpP hg _);rw [e1,hg];exact⟨rfl,fX,gX,hS,hpp⟩
end
theorem zl0 {l:List InsD} (ht:ThG l):∀ (n:Nat) (S:RunD),RunOk l S->RunOk l (goR l n S)
 | 0,S,h=>h
 | n+1,S,h=>by
  show RunOk l (match l[S.pc]? with | none=>S | some x=>if zbK x then S else goR l n (qh S x 0))
  cases hg:l[S.pc]? with
  | none=>exact h
  | some x =>
   dsimp only
   split
   ·exact h
   ·exact zl0 ht n _ (zeS ht h hg).1
theorem zgt {l:List InsD} (ht:ThG l) (dom:List UInt8):∀ (n:Nat) (S:RunD),RunOk l S->∀ R∈z8 l dom n S,RunOk l R
 | 0,S,h,R,hR=>by
  have hR:R∈[goR l l.length S]:=hR;rw [Ky] at hR;rw [hR];exact zl0 ht _ _ h
 | n+1,S,h,R,hR=>by
  have hT:=zl0 ht l.length S h;have hR:R∈(match l[(goR l l.length S).pc]? with | none=>[goR l l.length S] | some x=>dom.flatMap fun v=>z8 l dom n (qh (goR l l.length S) x v)):=hR
  cases hg:l[(goR l l.length S).pc]? with
  | none =>
   rw [hg] at hR;have hR:=Ky.1 hR;rw [hR];exact hT
  | some x =>
   rw [hg] at hR;obtain⟨v,-,hv⟩:=List.mem_flatMap.1 hR;exact zgt ht dom n _ (zeS ht hT hg).1 R hv
theorem zp4 {l:List InsD} (ht:ThG l) (dom:List UInt8):∀ R∈qA l dom,RunOk l R:=zgt ht dom _ _ (zmD l)
theorem zeT {l:List InsD} (ht:ThG l) (dom:List UInt8):∀ R∈qA l dom,R.many<=24/\∀ i,R.data i<2^32/\R.ctrl i<2^32/\R.att i<2^32:=fun R hR=>by
 have h:=zp4 ht dom R hR;have h1:=h.m;have h2:=h.p;have h3:=ht.1;exact⟨by omega,fun i=>h.s.s i⟩
end Go.Proofs.YtkpaomeeknegpaaGreatDoor
namespace Go.Sei
def zao (before:Nat->Nat):Nat->Nat->List Nat->List (List Nat)
 | 0,left,l=>if left=0 then [l] else []
 | n+1,left,l=>if left=0 then [l] else (els left).flatMap fun a=>if before a&&&left=0 then zao before n (jE left (2^a)) (l++[a]) else []
def zbq (r:RelD):List (List Nat):=if zaw r then zao (zV r).to 64 (j7 r.n) [] else []
def zau:List Nat->Nat->List Nat
 | [],_=>[]
 | n::ns,j=>j%n::zau ns (j/n)
def z6:List Nat->Nat
 | []=>1
 | n::ns=>n*z6 ns
def qa (sizes:List Nat):List (List Nat):=(List.range (z6 sizes.reverse)).map fun j=>(zau sizes.reverse j).reverse
theorem zeW:∀ (rs:List Nat) (j:Nat),(zau rs j).length=rs.length
 | [],_=>rfl
 | n::ns,j=>by
  show (zau ns (j/n)).length+1=ns.length+1;rw [zeW ns]
theorem ziB:∀ rs:List Nat,zau rs 0=List.replicate rs.length 0
 | []=>rfl
 | n::ns=>by
  show 0%n::zau ns (0/n)=0::List.replicate ns.length 0;rw [Nat.zero_mod,Nat.zero_div,ziB ns]
theorem zie:∀ {rs:List Nat},(∀ n∈rs,n≠0)->0<z6 rs
 | [],_=>Nat.one_pos
 | n::ns,h=>Nat.mul_pos (by have:=h n (by simp);omega) (zie fun m hm=>h m (by simp [hm]))
theorem zea:∀ {rs:List Nat},0∈rs->z6 rs=0
 | [],h=>by cases h
 | n::ns,h=>by
  show n*z6 ns=0;rcases Uy.1 h with h | h
  ·rw [<- h,UN]
  ·rw [zea h,Nat.mul_zero]
theorem zfu {n j:Nat} (hn:n≠0):(j%n=n-1->(j+1)%n=0/\(j+1)/n=j/n+1)/\(j%n≠n-1->(j+1)%n=j%n+1/\(j+1)/n=j/n):=by
 have h1:=QU j n;have h2:=UZ j (KE hn);obtain⟨q,hq⟩:∃ q,j/n=q:=⟨_,rfl⟩;obtain⟨m,hm⟩:∃ m,j%n=m:=⟨_,rfl⟩;rw [hq,hm] at h1 ⊢;rw [hm] at h2;refine⟨fun h=>?_,fun h=>?_⟩
 ·have e:j+1=n*(q+1):=by rw [Nat.mul_add];omega
  rw [e];exact⟨Nat.mul_mod_right _ _,Nat.mul_div_cancel_left _ (KE hn)⟩
 ·have e:j+1=n*q+(m+1):=by omega
  rw [e,Nat.mul_add_mod,Qz (by omega),Nat.mul_add_div (KE hn),Nat.div_eq_of_lt (by omega)];exact⟨rfl,rfl⟩
def zhJ (rs:List Nat) (j t:Nat):Prop:=∃ A ns k,rs=A++ns/\A.length=t/\zau rs (j+1)=List.replicate t 0++zau ns (k+1)/\(zau rs j).drop t=zau ns k/\z6 A*(k+1)=j+1
theorem zcq:∀ A B:List Nat,z6 (A++B)=z6 A*z6 B
 | [],B=>(UT _).symm
 | n::A,B=>by
  show n*z6 (A++B)=n*z6 A*z6 B;rw [zcq A B,UA]
theorem zmf (rs:List Nat) (j:Nat):zhJ rs j 0:=⟨[],rs,j,rfl,rfl,rfl,rfl,UT _⟩
theorem zmh {rs:List Nat} {j t:Nat} (hr:∀ n∈rs,n≠0) (h:zhJ rs j t) {n d:Nat} (hn:rs[t]?=some n) (hd:(zau rs j)[t]?=some d) (he:d=n-1):zhJ rs j (t+1):=by
 obtain⟨A,ns,k,h1,h2,h3,h4,h5⟩:=h
 cases ns with
 | nil =>
  rw [h1,QF,JJ (by omega)] at hn
  cases hn
 | cons m ns =>
  have hm:m=n:=by
   rw [h1,Jm (by omega),h2,UK] at hn;exact Ua hn
  subst hm;have hd2:k%m=d:=by
   have:=Gd (fun l=>l[0]?) h4;simp only [Ku,UH] at this;rw [hd] at this;exact (Ua this).symm
  have hm0:m≠0:=hr m (by rw [h1];simp);obtain⟨e1,e2⟩:=(zfu hm0).1 (hd2.trans he);have hk:k+1=m*(k/m+1):=by
   have:=QU (k+1) m;rw [e1,e2] at this;omega
  refine⟨A++[m],ns,k/m,by rw [h1];simp,by simp [h2],?_,?_,?_⟩
  ·rw [h3];show _++((k+1)%m::zau ns ((k+1)/m))=_;rw [e1,e2,List.replicate_succ',KL];rfl
  ·rw [<- Uf,h4];rfl
  ·rw [<- h5,zcq];show z6 A*(m*1)*_=_;rw [US,UA,<- hk]
theorem zmg {rs:List Nat} {j t:Nat} (hr:∀ n∈rs,n≠0) (h:zhJ rs j t) {n d:Nat} (hn:rs[t]?=some n) (hd:(zau rs j)[t]?=some d) (he:d≠n-1):zau rs (j+1)=List.replicate t 0++(d+1)::(zau rs j).drop (t+1):=by
 obtain⟨A,ns,k,h1,h2,h3,h4,h5⟩:=h
 cases ns with
 | nil =>
  rw [h1,QF,JJ (by omega)] at hn
  cases hn
 | cons m ns =>
  have hm:m=n:=by
   rw [h1,Jm (by omega),h2,UK] at hn;exact Ua hn
  subst hm;have hd2:k%m=d:=by
   have:=Gd (fun l=>l[0]?) h4;simp only [Ku,UH] at this;rw [hd] at this;exact (Ua this).symm
  have hm0:m≠0:=hr m (by rw [h1];simp);obtain⟨e1,e2⟩:=(zfu hm0).2 (fun h=>he (hd2.symm.trans h));rw [h3,<- Uf,h4];show _++((k+1)%m::zau ns ((k+1)/m))=_;rw [e1,e2,hd2];rfl
theorem zow {rs:List Nat} {j:Nat} (h:zhJ rs j rs.length) (hj:j<z6 rs):j+1=z6 rs:=by
 obtain⟨A,ns,k,h1,h2,h3,h4,h5⟩:=h;have hl:=Gd List.length h1;rw [lap,h2] at hl;have:ns=[]:=List.length_eq_zero_iff.1 (by omega);subst this;rw [QF] at h1;rw [h1] at hj ⊢;have h6:z6 A*(k+1)<=z6 A:=by omega
 rcases Nat.eq_zero_or_pos (z6 A) with h0 | h0
 ·omega
 ·have:k+1<=1:=Nat.le_of_mul_le_mul_left (by omega:z6 A*(k+1)<=z6 A*1) h0;have:k=0:=by omega
  subst this;omega
theorem zmi {rs:List Nat} {j t:Nat} (hr:∀ n∈rs,n≠0) (h:zhJ rs j t) {n d:Nat} (hn:rs[t]?=some n) (hd:(zau rs j)[t]?=some d) (he:d≠n-1) (hj:j<z6 rs):j+1<z6 rs:=by
 obtain⟨A,ns,k,h1,h2,h3,h4,h5⟩:=h
 cases ns with
 | nil =>
  rw [h1,QF,JJ (by omega)] at hn
  cases hn
 | cons m ns =>
  have hm:m=n:=by
   rw [h1,Jm (by omega),h2,UK] at hn;exact Ua hn
  subst hm;have hd2:k%m=d:=by
   have:=Gd (fun l=>l[0]?) h4;simp only [Ku,UH] at this;rw [hd] at this;exact (Ua this).symm
  have hm0:m≠0:=hr m (by rw [h1];simp);obtain⟨e1,e2⟩:=(zfu hm0).2 (fun h=>he (hd2.symm.trans h));apply Jo;intro hc;have hP:z6 rs=z6 A*(m*z6 ns):=by rw [h1,zcq];rfl
  have hA:0<z6 A:=by
   apply KE;intro h0;rw [hP,h0,UN] at hj;omega
  have h6:z6 A*(k+1)=z6 A*(m*z6 ns):=by omega
  have h7:=Nat.eq_of_mul_eq_mul_left hA h6;rw [h7,Nat.mul_mod_right] at e1;omega
theorem zib {L:List Nat} {t d:Nat} (h:L[t]?=some d):(List.replicate t 0++L.drop t).reverse=(L.drop (t+1)).reverse++d::(List.replicate t 0).reverse:=by
 obtain⟨ht,rfl⟩:=Jr.1 h;rw [<- JE ht,Kk,KT,KL];rfl
theorem zsV {L:List Nat} {t d:Nat} (h:L[t]?=some d) {i:Nat} (hi:i+t+1=L.length):(List.replicate t 0++L.drop t).reverse[i]?=some d:=by
 rw [zib h,Jm (by simp;omega)];have:i-(L.drop (t+1)).reverse.length=0:=by simp;omega
 rw [this];rfl
theorem zmG {L:List Nat} {t d:Nat} (h:L[t]?=some d) {i:Nat} (hi:i+t+1=L.length) (v:Nat):((List.replicate t 0++L.drop t).reverse).set i v=(List.replicate t 0++v::L.drop (t+1)).reverse:=by
 rw [zib h,JO _ _ (by simp;omega)];have:i-(L.drop (t+1)).reverse.length=0:=by simp;omega
 rw [this,Kk,KT,KL];rfl
theorem zph {L:List Nat} {t:Nat}:(List.replicate t 0++0::L.drop (t+1)).reverse=(List.replicate (t+1) 0++L.drop (t+1)).reverse:=by
 rw [List.replicate_succ',KL];rfl
structure ExD where
 ev:List Ev
 po:RelD
 rf:RelD
 co:RelD
 dt:RelD
 ct:RelD
 rm:RelD
 regs:Nat->UInt8
 mem:Nat->UInt8
structure MixD where
 base:ExD
 rs:List (Nat×List Nat)
 wr:List (List Nat)
def zc2 (n:Nat):RelD:=⟨n,fun _=>0⟩
def ex0 (n:Nat):ExD:=⟨[],zc2 n,zc2 n,zc2 n,zc2 n,zc2 n,zc2 n,fun _=>0,fun _=>0⟩
def zfe (b:Nat):List (Nat×Nat)->(Nat->Nat)->Nat->Nat
 | [],f=>f
 | p::ps,f=>zfe b ps (upd f (b+p.1) (f (b+p.1)|||2^(b+p.2)))
def zlL (b:Nat) (ps:List (Nat×Nat)) (r:RelD):RelD:=⟨r.n,zfe b ps r.to⟩
def zgI (a:Int):Nat->List Ev->Nat->Nat
 | _,[],s=>s
 | j,e::es,s=>zgI a (j+1) es (if e.th=a then s|||2^j else s)
def zbw (ev:List Ev) (i:Nat):Nat:=match ev[i]? with
 | none=>0
 | some e=>if e.th = -1 then 0 else zgI e.th (i+1) (ev.drop (i+1)) 0
def poR (ev:List Ev):RelD:=⟨ev.length,zbw ev⟩
def qs:Nat->List UInt8->List Ev
 | _,[]=>[]
 | l,v::vs=>⟨-1,2,UInt8.ofNat l,v,0,0,0⟩::qs (l+1) vs
def jz (k:Nat) (l:List Ev):List Ev:=l.map fun e=>{ e with th:=k }
def zbs (x:ExD) (k:Nat) (P:PathD):ExD :=
 { x with ev:=x.ev++jz k P.ev,dt:=zlL x.ev.length P.data x.dt,ct:=zlL x.ev.length P.ctrl x.ct,rm:=zlL x.ev.length P.rmw x.rm,regs:=fun i=>if i/8=k then P.regs (i%8) else x.regs i }
def asR:Nat->List PathD->ExD->ExD
 | _,[],x=>x
 | k,P::Ps,x=>asR (k+1) Ps (zbs x k P)
def zbt (locs:Nat) (Ps:List PathD):Nat:=Ps.foldl (fun n P=>n+P.ev.length) locs
def zhM:Nat->List Ev->List (List Nat)->List (List Nat)
 | _,[],W=>W
 | i,e::es,W=>zhM (i+1) es (if e.k=2 then W.set e.l.toNat (W.getD e.l.toNat []++[i]) else W)
def zbL (all:List Ev) (W:List (List Nat)):Nat->List Ev->List (Nat×List Nat)
 | _,[]=>[]
 | i,e::es=>if e.k=1 then (i,(W.getD e.l.toNat []).filter fun w=>decide ((all.getD w ev0).v=e.v))::zbL all W (i+1) es else zbL all W (i+1) es
def j6 (init:List UInt8) (Ps:List PathD):ExD :=
 let x:=asR 0 Ps { ex0 (zbt init.length Ps) with ev:=qs 0 init }
 { x with po:=poR x.ev }
def zae (x:ExD) (locs:Nat):MixD :=
 let W:=zhM 0 x.ev (List.replicate locs [])
 ⟨x,zbL x.ev W 0 x.ev,W⟩
def zg5 (init:List UInt8) (Ps:List PathD):Option MixD:=if zbt init.length Ps<=48 then some (zae (j6 init Ps) init.length) else none
def zeX (lim:Nat):List (List Nat)->Nat->Option Nat
 | [],n=>some n
 | f::fs,n=>if f=[] then none else zeX lim fs (min (n*f.length) lim)
def zf1 (lim len:Nat):Nat->Nat->Nat->Nat
 | 0,_,n=>n
 | m+1,k,n=>if k<len then zf1 lim len m (k+1) (min (n*k) lim) else n
def zf0 (lim:Nat):List (List Nat)->Nat->Nat
 | [],n=>n
 | l::ls,n=>zf0 lim ls (zf1 lim l.length l.length 2 n)
def jv (m:MixD) (lim:Nat):Nat:=match zeX lim (m.rs.map (·.2)) 1 with
 | none=>0
 | some n=>zf0 lim m.wr n
def zM (w:List Nat):List (List Nat) :=
 let l:=zbq (zhw w.length 1 (jE (j7 w.length) 1))
 if l.length<=10000 then l.map fun o=>o.map fun k=>w.getD k 0 else []
def zha:List Nat->(Nat->Nat)->Nat->(Nat->Nat)
 | [],f,_=>f
 | a::l,f,b=>zha l (upd f a b) (b|||2^a)
def zas (l:List Nat) (r:RelD):RelD:=⟨r.n,zha l.reverse r.to 0⟩
def rfF:List (Nat×List Nat)->List Nat->(Nat->Nat)->Nat->Nat
 | [],_,f=>f
 | (r,s)::rs,ds,f=>rfF rs ds.tail (upd f (s.getD (ds.headD 0) 0) (f (s.getD (ds.headD 0) 0)|||2^r))
def coG (ev:List Ev):Nat->List (List (List Nat))->List Nat->RelD×(Nat->UInt8)->RelD×(Nat->UInt8)
 | _,[],_,p=>p
 | l,R::Rs,ds,p=>coG ev (l+1) Rs ds.tail (zas (R.getD (ds.headD 0) []) p.1,upd p.2 l (ev.getD ((R.getD (ds.headD 0) []).getLastD 0) ev0).v)
def zw (m:MixD) (ds:List Nat):ExD :=
 let c:=coG m.base.ev 0 (m.wr.map zM) (ds.drop m.rs.length) (m.base.co,m.base.mem)
 { m.base with rf:=⟨m.base.rf.n,rfF m.rs ds m.base.rf.to⟩,co:=c.1,mem:=c.2 }
def zL (m:MixD):List Nat:=m.rs.map (fun r=>r.2.length)++m.wr.map fun w=>(zM w).length
def zds (m:MixD):List ExD:=(qa (zL m)).map (zw m)
def qE (Ts:List (List PathD)):List Nat->List PathD
 | []=>[]
 | d::ds=>match Ts with
  | []=>[]
  | T::Ts=>(match T[d]? with | some P=>[P] | none=>[])++qE Ts ds
end Go.Sei
namespace Go.Proofs.YtkpaomeeknegpaaGreatDoor
open Go.Vc Go.RowKit Go.Sei
theorem zaF {X:Wd} {b:Nat} {r:RelD} (f:X.heap[b]?=some (.cells (zf r).toArray 39 (0,0))) {i:Nat} (h:i<48):X.cell? ⟨b,0+1+i*1,none⟩=some (s64 (r.to i)):=by
 rw [US,Uz];exact zc (za f) (zeA r h)
theorem jm {r:RelD} (h:okR r=true):0<=r.n/\r.n<=48/\∀ a,a<48->qP (r.to a) (zav r.n)=0/\((a:Int)<r.n\/r.to a=0):=by
 unfold okR at h;rw [bAT,bAT,dE,dE,Qg] at h;refine⟨h.1,h.2.1,fun a ha=>?_⟩;have:=h.2.2 a (Uj.2 ha);unfold zbI at this;rw [bAT,QC,dE,dE,dE] at this;exact this
theorem zbm {n:Int} (h0:0<=n) (h:n<=64) {i:Nat} (hi:i<64):(zav n).testBit i=decide ((i:Int)<n):=by
 unfold zav
 split
 ·rw [QA,Uc (by omega)]
 split
 ·rw [show 18446744073709551615=2^64-1 from rfl,Nat.testBit_two_pow_sub_one];rw [Un hi,Un (by omega)]
 ·rw [Nat.testBit_two_pow_sub_one];apply QB.2;omega
theorem zje {r:RelD} (h:okR r=true) (hr:zJ r.to) {a i:Nat} (ha:a<48) (hb:(r.to a).testBit i=true):(i:Int)<r.n/\(a:Int)<r.n:=by
 obtain⟨h0,h48,hall⟩:=jm h;obtain⟨h1,h2⟩:=hall a ha;have hi:i<64:=by
  apply Qw;intro hi;have:=JH (nL (hr a ha) (Kc (by decide) hi));rw [this] at hb;cases hb
 refine⟨?_,?_⟩
 ·have h3:(qP (r.to a) (zav r.n)).testBit i=false:=by rw [h1];exact QA i
  rw [zaO (zaH _) hi,hb,zbm h0 (by omega) hi] at h3;simpa using h3
 ·rcases h2 with h2 | h2
  ·exact h2
  ·rw [h2,QA] at hb;cases hb
theorem zjd {r:RelD} (h:okR r=true) (hr:zJ r.to) {a:Nat} (ha:a<48):∀ i∈els (r.to a),(i:Int)<r.n/\i<48:=fun i hi=>by
 have h1:=(zje h hr ha (qM.1 hi).2).1;have:=(jm h).2.1;exact⟨h1,by omega⟩
theorem zbQ {s:Nat} (h0:s≠0) (h:s<2^64):(els s).headD 0=ctz s/\(els s).isEmpty=false:=by
 rw [(jO h0 h).1];exact⟨rfl,rfl⟩
theorem zcQ {s:Nat} (h:s<2^64) (he:(els s).isEmpty=true):s=0:=by
 apply Jo;intro h0;rw [(zbQ h0 h).2] at he;cases he
theorem zeV {s:Nat} (h:s<2^64) (he:(!(els s).isEmpty)=true):s≠0:=fun h0=>by
 subst h0;rw [zah] at he;cases he
theorem zdS {n:Nat} {f:Nat->Nat} (h:∀ i,i<n->i<48->f i<2^64):zJ (jQ n f).to:=fun i hi=>by
 unfold jQ;dsimp only
 split
 ·rename_i h1;exact h i h1 hi
 ·decide
theorem zkH {to:Nat->Nat} (ht:zJ to):∀ (l:List Nat) (t:Nat),t<2^64->(∀ i∈l,i<48)->l.foldl (fun t a=>t|||to a) t<2^64
 | [],t,h,_=>h
 | x::l,t,h,hl=>by
  rw [QH];exact zkH ht l _ (KV h (ht x (hl x Kx))) fun i hi=>hl i (JW _ hi)
section
variable {ra rb:RelD} {w:Wd}
theorem zqI {ba bb i a b:Nat} (fa:w.heap[ba]?=some (.cells #[s64 a] 36 (0,0))) (fb:w.heap[bb]?=some (.cells #[s64 b] 36 (0,0))) (hi:i<48) :
  CB 155 (i64 (i:Nat)::[At0 ba,At0 bb]).toArray w (s64 (if a.testBit i then b else 0)):=by
 refine zF 11 (i64 (i:Nat)::[At0 ba,At0 bb]) Tryz.func155 ?_;refine⟨_,zc (za fa) (i:=0) rfl,by omega,_,zf3 (k:=i) (by omega),?_⟩;have e1:IntKind.u64.wrap ((BitVec.ofInt IntKind.u64.bits ((a/2^i:Nat):Int)&&&BitVec.ofInt IntKind.u64.bits (1:Int)).toNat:Int)=((a/2^i&&&1:Nat):Int):=by
  show IntKind.u64.wrap ((BitVec.ofInt 64 ((a/2^i:Nat):Int)&&&BitVec.ofInt 64 (1:Int)).toNat:Int)=_;rw [Qd,show (BitVec.ofInt 64 (1:Int)).toNat=1 from rfl,KB,KB,Kq];have e2:(((a/2^i:Nat):Int)%((2^64:Nat):Int)).toNat=(a/2^i)%2^64:=by
   rw [<- Int.natCast_emod,KI]
  rw [e2];generalize a/2^i=m;rw [w64 (by omega)];omega
 refine⟨_,e1,?_⟩;rw [zjz];refine biE (fun h=>?_) fun h=>?_
 ·have h:a.testBit i=false:=by
   cases hc:a.testBit i with
   | false=>rfl
   | true =>
    rw [hc] at h;exact Gj h (by decide)
  exact⟨by rw [h];rfl,UW _ _⟩
 ·have h:a.testBit i=true:=by
   cases hc:a.testBit i with
   | true=>rfl
   | false =>
    rw [hc] at h;exact Gj h (by decide)
  exact⟨_,zc (za fb) (i:=0) rfl,by rw [h];rfl,UW _ _⟩
theorem zsr {n a b:Nat} (hn:n<=48) (ha:a<2^64) (hb:b<2^64):CB 112 #[i64 n,s64 a,s64 b] w (.agg (zf (zhw n a b)).toArray):=by
 refine qk 21 [i64 n,s64 a,s64 b] (.c .p (.s .p (.s .p .p))) Tryz.func112 ?_;obtain⟨L,hL⟩:=nm (w.heap.size);refine⟨Unit,fun _=>⟨[(0,i64 n),(4,At0 L),(5,At0 (L+1)),(6,At0 (L+2))],[]⟩,fun _ X=>X.heap[L]?=some (.cells #[s64 a] 36 (0,0))/\X.heap[L+1]?=some (.cells [s64 b].toArray 36 (0,0))/\X.heap[L+2]?=some (.cells (zf zB).toArray 39 (0,0))/\Bw w X,?_,?_⟩
 ·have s1:=wz w (.cells #[s64 a] 36);have s2:=wz (w.alloc (.cells #[s64 a] 36)) (.cells #[s64 b] 36);have h2:=zy (w.alloc (.cells #[s64 a] 36)) (.cells #[s64 b] 36);have h3:=zy ((w.alloc (.cells #[s64 a] 36)).alloc (.cells #[s64 b] 36)) (.cells (zf zB).toArray 39);rw [s1] at s2 h2;rw [s2] at h3;refine⟨(),⟨.cons rfl (.cons (by rw [hL];rfl) (.cons (by rw [hL,<- s1];rfl) (.cons (by rw [hL,<- s2];rfl) .nil))),rfl⟩,?_,?_,?_,?_⟩
  ·rw [hL];exact qJ _ (qJ _ (zy w _))
  ·rw [hL];exact qJ _ h2
  ·rw [hL];exact h3
  ·exact (((zba w _)).alloc (by simp) _).alloc (by simp;omega) _
 rintro _ X ⟨f0,f1,f2,hbX⟩;refine brN (Uc (by omega)) (brN (Uc (by omega)) (DrawE.ord [4] [0,1,2,3,4] (by kernel_rfl) ⟨_,zc (za (hdr f1)) (i:=0) rfl,cmo ziL ?_⟩));rintro e _ ⟨rfl,rfl⟩;refine⟨UW _ _,_,jY (a:=b) (b:=zav n) hb (zaH _),?_⟩;have hd:Bw X X.drew:=(UW _ X).drew;refine zm k36 (hdr f1) (o:=0) (v:=s64 (b&&&zav n)) rfl rfl (by show 0<1;decide) rfl fun Y fY gY sY=>?_;have fY:Y.heap[L+1]?=some (.cells #[s64 (b&&&zav n)] 36 (0,0)):=fY;have hbY:Bw w Y:=((zst hbX hd)).trans (zk gY hbX.size (by omega));have f0Y:=(gY.block L (hlt (hdr f0)) (by simp)).trans (hdr f0);have f2Y:=(gY.block (L+2) (hlt (hdr f2)) (by simp)).trans (hdr f2);refine cmo (zjx (w:=Y) (n:=n) (row:=fun x=>if a.testBit x then b&&&j7 n else 0) hn (by kernel_rfl) (fun i Z hi hbZ=>zqI (zb hbZ f0Y) (zb hbZ fY) (by omega))) ?_;rintro e Z ⟨rfl,hbZ⟩;have f2Z:=zb hbZ f2Y;exact zt (v := .agg (zf (zhw n a b)).toArray) k39 f2Z rfl rfl (zE _) ⟨zf (zhw n a b),zg _,za (zn f2Z),rfl,zl ((zst hbY hbZ)) (by omega) _⟩
end
theorem zf5 {f:Nat->Nat} (h:zJ f) {i v:Nat} (hv:v<2^64):zJ (upd f i v):=fun j hj=>by
 by_cases e:j=i
 ·rw [e,zQ];exact hv
 ·rw [qz _ _ e];exact h j hj
def zsH (a:Nat) (l:List Nat) (f:Nat->Nat):Nat->Nat:=l.foldl (fun f b=>upd f b (f b|||2^a)) f
section
variable {r:RelD} {w:Wd}
theorem zhK (hr:zJ r.to) (hT:Tz64M w):Calls PG 38 #[.agg (zf r).toArray] w fun e w'=>e = .returned (.agg (zf (zV r)).toArray)/\Bw w w'/\zJ (zV r).to:=by
 refine qk 50 [.agg (zf r).toArray] (.c .p (.s .p (.s .p (.c .p .p)))) Tryz.func38 ?_;obtain⟨L,hL⟩:=nm (w.heap.size);refine⟨Unit,fun _=>⟨[(1,At0 L),(2,At0 (L+1))],[]⟩,fun _ X=>X.heap[L]?=some (.cells (zf r).toArray 39 (0,0))/\X.heap[L+1]?=some (.cells (zf zB).toArray 39 (0,0))/\X.heap.size=L+2/\Bw w X,?_,?_⟩
 ·have s1:=wz w (.cells (zf r).toArray 39);have h2:=zy (w.alloc (.cells (zf r).toArray 39)) (.cells (zf zB).toArray 39);have s2:=wz (w.alloc (.cells (zf r).toArray 39)) (.cells (zf zB).toArray 39);rw [s1] at h2 s2;refine⟨(),⟨.cons (by rw [hL];rfl) (.cons (by rw [hL,<- s1];rfl) .nil),rfl⟩,?_,?_,?_,?_⟩
  ·rw [hL];exact qJ _ (zy w _)
  ·rw [hL];exact h2
  ·rw [hL];exact s2
  ·exact ((zba w _)).alloc (by simp) _
 rintro _ X ⟨f0,f1,sX,hbX⟩;refine⟨zf r,zg _,za f0,hlt f0,cmo (jV hr) ?_⟩;rintro e Y ⟨rfl,hbY⟩;have hbwY:=zst hbX hbY;have f0Y:=zb hbY f0;have f1Y:=zb hbY f1;refine biE (fun h=>?_) fun h=>?_
 ·have h:okR r=false:=by
   have h:(!okR r)=true:=h;simpa using h
  have e:zV r=zB:=by unfold zV;rw [h];rfl
  rw [e];exact⟨zf zB,rfl,zt (v := .agg (zf zB).toArray) k39 f1Y rfl rfl (zE _) ⟨zf zB,zg _,za (zn f1Y),rfl,zl hbwY (by omega) _,fun i _=>(by decide:0<2^64)⟩⟩
 have h:okR r=true:=by
  have h:(!okR r)=false:=h;simpa using h
 obtain⟨p0,p48,_⟩:=jm h;obtain⟨n,hn⟩:∃ n:Nat,r.n=n:=⟨r.n.toNat,by omega⟩;have hn48:n<=48:=by omega
 have e0:zV r=⟨n,zaC r.to n⟩:=by unfold zV;rw [Gi h,hn];rfl
 rw [e0];have hnY:Y.cell? ⟨L,0+0,none⟩=some (i64 n):=by rw [<- hn];exact zc (za f0Y) (i:=0) rfl
 refine⟨i64 n,hnY,zf ⟨n,fun _=>0⟩,rfl,?_⟩;have sY:=hbY.size;refine zo (X:=Y) (v := .agg (zf ⟨n,fun _=>0⟩).toArray) k39 rfl rfl (zE _) fun Z hbZ fZ sZ=>?_;obtain⟨M,hM⟩:=nm (Y.heap.size);rw [<- hM] at fZ sZ;have pM:some (Value.pointer (some ⟨Y.heap.size,0,none⟩))=some (At0 M):=by rw [hM]
 have hbwZ:=zst hbwY hbZ;refine⟨Unit,fun _=>⟨[(1,At0 L),(2,At0 (L+1)),(3,At0 M)],[]⟩,fun _ V=>V.heap[M]?=some (.cells (zf ⟨n,zaC r.to n⟩).toArray 39 (0,0))/\V.heap[L+1]?=some (.cells (zf zB).toArray 39 (0,0))/\Bw w V/\zJ (zaC r.to n),?_,?_⟩
 ·refine⟨i64 n,by rw [<- hn];exact zc (za (zb hbZ f0Y)) (i:=0) rfl,?_⟩;refine⟨Nat,fun k=>⟨[(1,At0 L),(2,At0 (L+1)),(3,At0 M),(16,i64 n),(17,i64 (k:Nat))],[]⟩,
   fun k V=>k<=n/\V.heap[M]?=some (.cells (zf ⟨n,zaC r.to k⟩).toArray 39 (0,0))/\zJ (zaC r.to k)/\Below M Z V,fun k=>n-k,0,
   ⟨.cons rfl (.cons rfl (.cons pM (.cons rfl (.cons rfl .nil)))),rfl⟩,⟨UU _,fZ,fun i _=>(by decide:0<2^64),UW _ _⟩,?_⟩
  rintro k V ⟨hk,fV,hwV,hbV⟩;have sV:=hbV.size;refine biE (fun hc=>?_) fun hc=>?_
  ·have hc:(k:Int)<(n:Int):=dT hc;have hkn:k<n:=by omega
   have step:zaC r.to (k+1)=zsH k (els (r.to k)) (zaC r.to k):=by
    unfold zaC;rw [QR,KQ];rfl
   have h48:=zjd h hr (a:=k) (by omega);have f0V:V.heap[L]?=some (.cells (zf r).toArray 39 (0,0)):=(hbV.block L (by omega)).trans (zb hbZ f0Y);have hTV:Tz64M V:=hT.below (hbwZ.trans (hbV.mono (by omega)));refine⟨k,rfl,by omega,?_⟩;refine⟨_,zaF f0V (by omega),cmo (za2 (hr k (by omega)) hTV) ?_⟩;rintro e U ⟨rfl,hbU⟩;refine⟨(Nat->Nat)×Nat,fun q=>⟨[(1,At0 L),(2,At0 (L+1)),(3,At0 M),(4,i64 (k:Nat)),(5,s64 q.2),(6,i64 ((els q.2).headD 0:Nat)),(7,.bool (!(els q.2).isEmpty)),(16,i64 n),(17,i64 (k:Nat))],[]⟩,
    fun q T=>(zaC r.to (k+1)=zsH k (els q.2) q.1/\zJ q.1/\q.2<2^64/\∀ b∈els q.2,b<48)/\T.heap[M]?=some (.cells (zf ⟨n,q.1⟩).toArray 39 (0,0))/\Below M Z T,fun q=>q.2,(zaC r.to k,r.to k),
    (cvE rfl rfl),⟨⟨step,hwV,hr k (by omega),fun b hb=>(h48 b hb).2⟩,zb hbU fV,hbV.trans (hbU.mono (by omega))⟩,?_⟩
   rintro⟨g,q⟩ T ⟨⟨he,hg,hq,hb48⟩,fT,hbT⟩;dsimp only at he hg hq hb48 fT ⊢;have sT:=hbT.size;refine biE (fun hc=>?_) fun hc=>?_
   ·have h0:=zeV hq hc;obtain⟨e1,e2,_,e3⟩:=jO h0 hq;have hd:=(zbQ h0 hq).1;have hc48:ctz q<48:=hb48 _ (by rw [e1];exact Kx);rw [hd];refine DrawE.ord [9] [0,1,2,3,4,5,6,7,8,9] (by kernel_rfl) ⟨ctz q,rfl,hc48,_,zaF (hdr fT) hc48,by omega,_,jX (e:=k) (by omega),_,zaf (hg _ hc48) (zZ (by omega)),ctz q,rfl,hc48,zm k36 (hdr fT) (o:=0+1+ctz q*1) (v:=s64 (g (ctz q)|||2^k)) rfl rfl (by rw [zg];omega) rfl fun S fS gS sS=>?_⟩;rw [UM,US,zez _ hc48] at fS;have hdT:Bw T T.drew:=(UW _ T).drew;have hbS:Below M Z S:=(hbT.trans (hdT.mono (show M<=T.heap.size by omega))).trans (zk gS (show M<=T.heap.size by omega) (UR _));refine⟨((q-1:Nat):Int),(w64 (a:=(q:Int)-1) (by omega)).trans (by omega),((qp q:Nat):Int),jY (a:=q) (b:=q-1) hq (by omega),cmo (za2 (s:=qp q) (by omega) (hT.below (hbwZ.trans (hbS.mono (by omega))))) ?_⟩;rintro e R ⟨rfl,hbR⟩;have sS2:=hbS.size;refine⟨(upd g (ctz q) (g (ctz q)|||2^k),qp q),(cvE rfl rfl),⟨⟨?_,zf5 hg (KV (hg _ hc48) (zZ (by omega))),by show qp q<_;omega,fun b hb=>hb48 b (by rw [e1];exact JW _ hb)⟩,zb hbR fS,hbS.trans (hbR.mono (by omega))⟩,e2⟩;rw [he,e1];rfl
   ·have hc:(els q).isEmpty=true:=(by simpa using hc);have:=zcQ hq hc;subst this;rw [zah] at he;have he:zaC r.to (k+1)=g:=he;exact nxI (by omega) ⟨k+1,(cvE rfl rfl),⟨hkn,by rw [he];exact fT,by rw [he];exact hg,hbT⟩,zdc (by omega)⟩
  ·have hc:¬ (k:Int)<(n:Int):=dF hc;obtain rfl:k=n:=by omega
   exact⟨(),(cvE rfl rfl),fV,(hbV.block (L+1) (by omega)).trans (zb hbZ f1Y),hbwZ.trans (hbV.mono (by omega)),hwV⟩
 clear fZ sZ pM hbwZ hbZ Z;rintro _ V ⟨fM,f1V,hbV,hw⟩;exact⟨zf ⟨n,zaC r.to n⟩,zg _,za fM,hlt fM,zt (v := .agg (zf ⟨n,zaC r.to n⟩).toArray) k39 f1V rfl rfl (zE _) ⟨zf ⟨n,zaC r.to n⟩,zg _,za (zn f1V),rfl,zl hbV (by omega) _,hw⟩⟩
theorem zok {p:Nat->Bool} {x:Nat} {l:List Nat}:(x::l).find? p=if p x then some x else l.find? p:=by
 rw [List.find?_cons]
 cases p x <;> rfl
theorem zti {b left:Nat} (f:w.heap[b]?=some (.cells (zf r).toArray 39 (0,0))) (hr:zJ r.to) (hs:left<2^64) (h48:∀ i∈els left,i<48) (hT:Tz64M w) :
  CB 40 #[At0 b,s64 left] w (.tuple #[i64 ((zb5 r.to left).getD 0:Nat),.bool (zb5 r.to left).isSome]):=by
 refine zF 35 [At0 b,s64 left] Tryz.func40 ?_;refine cmo (za2 hs hT) ?_;rintro e X ⟨rfl,hbX⟩;refine⟨Nat,fun q=>⟨[(0,At0 b),(1,s64 left),(6,s64 q),(7,i64 ((els q).headD 0:Nat)),(8,.bool (!(els q).isEmpty))],[]⟩,
  fun q Y=>zb5 r.to left=(els q).find? (fun a=>decide (r.to a&&&left=0))/\(q<2^64/\∀ i∈els q,i<48)/\Bw w Y,fun q=>q,left,
  (cvE rfl rfl),⟨rfl,⟨hs,h48⟩,hbX⟩,?_⟩
 clear hbX X;rintro q X ⟨he,⟨hq,h48⟩,hbX⟩;refine biE (fun hc=>?_) fun hc=>?_
 ·have h0:=zeV hq hc;obtain⟨e1,e2,_,e3⟩:=jO h0 hq;have hd:=(zbQ h0 hq).1;have hc48:ctz q<48:=h48 _ (by rw [e1];exact Kx);have fX:=zb hbX f;refine⟨ctz q,Gd Nat.cast hd.symm,hc48,_,zaF fX hc48,_,jY (hr _ hc48) hs,?_⟩;rw [e1,zok] at he;refine biE (fun h=>?_) fun h=>?_
  ·have h:r.to (ctz q)&&&left=0:=Uu (dT h);rw [Un h] at he;have he:zb5 r.to left=some (ctz q):=he;exact⟨by rw [he,<- hd];rfl,hbX⟩
  ·have h:¬ r.to (ctz q)&&&left=0:=fun e=>by
    have h:¬ (((r.to (ctz q)&&&left:Nat):Int)=0):=dF h;exact h (by rw [e];rfl)
   rw [Uc h] at he;refine⟨((q-1:Nat):Int),(w64 (a:=(q:Int)-1) (by omega)).trans (by omega),((qp q:Nat):Int),jY (a:=q) (b:=q-1) hq (by omega),cmo (za2 (s:=qp q) (by omega) (hT.below hbX)) ?_⟩;rintro e Y ⟨rfl,hbY⟩;exact⟨qp q,(cvE rfl rfl),⟨he,⟨by omega,fun i hi=>h48 i (by rw [e1];exact JW _ hi)⟩,(zst hbX hbY)⟩,e2⟩
 ·have hc:(els q).isEmpty=true:=by simpa using hc
  have:=zcQ hq hc;subst this;rw [zah] at he;have he:zb5 r.to left=none:=he;exact⟨by rw [he];rfl,hbX⟩
end
theorem zdn {s a:Nat} (hs:s<2^64) (ha:a∈els s):els (qP s (2^a))=(els s).filter (fun i => !decide (i=a)):=by
 have ha64:=zma ha;unfold els;rw [List.filter_filter];apply KN;intro i hi;rw [zaO (zZ ha64) (Uj.1 hi),Km,Bool.and_comm];congr 2;exact QB.2 ⟨fun h=>h.symm,fun h=>h.symm⟩
theorem zaq {s a:Nat} (hs:s<2^64) (ha:a∈els s):(els (qP s (2^a))).length<(els s).length:=by
 rw [zdn hs ha];exact List.length_filter_lt_length_iff_exists.2 ⟨a,ha,by simp⟩
theorem zpG {s a:Nat} (hs:s<2^64) (ha:a∈els s):qP s (2^a)<s:=by
 have h1:qP s (2^a)<=s:=QT;have h2:qP s (2^a)≠s:=fun e=>by
  have:=zaq hs ha;rw [e] at this;omega
 omega
theorem zdO {n:Nat} (h:n<=64):els (zav n)=List.range n:=by
 have e:∀ i∈List.range 64,(zav n).testBit i=decide (i<n):=fun i hi=>by
  rw [zbm (by omega) (by omega) (Uj.1 hi)];exact QB.2 (by omega)
 unfold els;rw [KN e];obtain⟨m,hm⟩:∃ m,64=n+m:=⟨64-n,by omega⟩;rw [hm,List.range_add,Kt];have f1:(List.range n).filter (fun i=>decide (i<n))=List.range n:=by
  rw [List.filter_eq_self];intro i hi;simpa using hi
 have f2:((List.range m).map (n + ·)).filter (fun i=>decide (i<n))=[]:=by
  rw [JC];intro i hi;obtain⟨j,_,rfl⟩:=UF.1 hi;simp
 rw [f1,f2,QF]
theorem zkJ {before:Nat->Nat} {left a:Nat} (h:zb5 before left=some a):a∈els left:=List.mem_of_find?_eq_some h
section
variable {r:RelD} {w:Wd}
theorem zul (hr:zJ r.to) (hT:Tz64M w):Calls PG 18 #[.agg (zf r).toArray] w fun e w' =>
  (∃ p c,e = .returned (.tuple #[.slice p ((zer r).getD []).length c,.bool (zer r).isSome])/\OwnS zC 3 w.heap.size w' p c ((zer r).getD []))/\Bw w w':=by
 refine qk 38 [.agg (zf r).toArray] (.c .p (.s .p (.c .p (.c .p (.s .p .p))))) Tryz.func18 ?_;obtain⟨L,hL⟩:=nm (w.heap.size);refine⟨Unit,fun _=>⟨[(1,At0 L)],[]⟩,fun _ X=>X.heap[L]?=some (.cells (zf r).toArray 39 (0,0))/\X.heap.size=L+1/\Bw w X,⟨(),⟨.cons (by rw [hL];rfl) .nil,rfl⟩,by rw [hL];exact zy w _,by rw [hL];exact wz _ _,(zba w _)⟩,?_⟩;rintro _ X ⟨f0,sX,hbX⟩;refine⟨zf r,zg _,za f0,hlt f0,cmo (jV hr) ?_⟩;rintro e Y ⟨rfl,hbY⟩;have hbwY:=zst hbX hbY;have f0Y:=zb hbY f0;refine biE (fun h=>?_) fun h=>?_
 ·have h:okR r=false:=by
   have h:(!okR r)=true:=h;simpa using h
  have e:zer r=none:=by unfold zer;rw [h];rfl
  rw [e];exact⟨⟨none,0,rfl,OwnS.nil⟩,hbwY⟩
 have h:okR r=true:=by
  have h:(!okR r)=false:=h;simpa using h
 obtain⟨p0,p48,_⟩:=jm h;obtain⟨n,hn⟩:∃ n:Nat,r.n=n:=⟨r.n.toNat,by omega⟩;have hn48:n<=48:=by omega
 have sY:=hbY.size;refine⟨Nat,fun M=>⟨[(1,At0 L),(4,At0 M)],[]⟩,fun M Z=>Z.heap[M]?=some (.cells (zf (zV r)).toArray 39 (0,0))/\L<M/\Z.heap[L]?=some (.cells (zf r).toArray 39 (0,0))/\zJ (zV r).to/\Bw w Z,?_,?_⟩
 ·refine⟨zf r,zg _,za f0Y,hlt f0Y,cmo (zhK hr (hT.below hbwY)) ?_⟩;rintro e Z ⟨rfl,hbZ,hw⟩;refine zo (X:=Z) (v := .agg (zf (zV r)).toArray) k39 rfl rfl (zE _) fun V hbV fV sV=>?_;have sZ:=hbZ.size;exact⟨Z.heap.size,(cvE rfl rfl),fV,by omega,zb hbV (zb hbZ f0Y),hw,((zst hbwY hbZ)).trans (hbV.mono (by omega))⟩
 clear f0 sX hbX hbY hbwY f0Y sY Y X;rintro M X ⟨fM,hLM,f0,hw,hbX⟩;refine⟨Unit,fun _=>⟨[(1,At0 L),(4,At0 M),(5,s64 (zav n))],[]⟩,fun _ Y=>X=Y,?_,?_⟩
 ·refine⟨i64 n,by rw [<- hn];exact zc (za f0) (i:=0) rfl,cmo ziL ?_⟩;rintro e _ ⟨rfl,rfl⟩;exact⟨(),(cvE rfl rfl),rfl⟩
 rintro _ _ rfl;refine⟨i64 n,by rw [<- hn];exact zc (za f0) (i:=0) rfl,zdh (E:=zC) Tryz.underlying62 k3 rfl rfl rfl n (by show 8*n<=_;omega) (by unfold maxLen;omega) fun Z oZ hbZ sZ=>?_⟩;have hbwZ:=zst hbX hbZ;have wX:=hbX.size;have eT:zer r=ziP (zV r).to 64 (zav n) []:=by unfold zer;rw [Gi h,zaI,hn]
 have hMX:=hlt fM;refine⟨Nat×List Nat×Nat×OA×Nat,fun q=>⟨[(1,At0 L),(4,At0 M),(5,s64 q.1),(6,.slice q.2.2.2.1 q.2.1.length q.2.2.2.2)],[]⟩,
  fun q Y=>(zer r=ziP (zV r).to q.2.2.1 q.1 q.2.1/\(els q.1).length<=q.2.2.1/\q.2.2.1+q.2.1.length=64/\q.1<2^64/\∀ i∈els q.1,i<48)/\OwnS zC 3 X.heap.size Y q.2.2.2.1 q.2.2.2.2 q.2.1/\Bw X Y,fun q=>q.1,(zav n,[],64,some ⟨X.heap.size,0,none⟩,n),
  (cvE rfl rfl),⟨⟨eT,zeU _,rfl,zaH _,fun i hi=>by
   rw [show els (zav n)=List.range n from zdO (by omega)] at hi;have:=Uj.1 hi;omega⟩,oZ,hbZ⟩,?_⟩
 rintro⟨q,l,m,p,c⟩ Y ⟨⟨he,hm,hml,hq,h48⟩,ho,hbY⟩;dsimp only at he hm hml hq h48 ho ⊢;have sY:=hbY.size;refine biE (fun hc=>?_) fun hc=>?_
 ·have hc:(!decide ((q:Int)=0))=true:=hc;have h0:q≠0:=fun e=>by
   subst e;exact Gj hc (by decide)
  obtain⟨e1,_,_,_⟩:=jO h0 hq;have hm1:1<=(els q).length:=by rw [e1];simp
  obtain⟨m,rfl⟩:∃ m',m=m'+1:=⟨m-1,by omega⟩;have fMY:=zb hbY fM;have step:zer r=match zb5 (zV r).to q with | none=>none | some a=>ziP (zV r).to m (jE q (2^a)) (l++[a]):=by
   rw [he];show (if q=0 then some l else _)=_;rw [Gh h0]
   cases zb5 (zV r).to q <;> rfl
  refine cmo (zti fMY hw hq h48 (hT.below (hbX.trans (hbY.mono wX)))) ?_;rintro e V ⟨rfl,hbV⟩;have hbXV:=hbY.trans (hbV.mono sY)
  cases hf:zb5 (zV r).to q with
  | none =>
   rw [hf] at step;refine brT ?_;have e:zer r=none:=step;rw [e];exact⟨⟨none,0,rfl,OwnS.nil⟩,hbX.trans (hbXV.mono wX)⟩
  | some a =>
   rw [hf] at step;refine brF ?_;have ha:=zkJ hf;have ha48:=h48 a ha;refine⟨⟨by decide,by decide,rfl⟩,zC.enc a,rfl,?_⟩;have hba:Bw V (V.alloc (.cells (zC.enc a).toArray 3)):=zba _ _;have hYa:Bw Y (V.alloc (.cells (zC.enc a).toArray 3)):=zst hbV hba;have sa:(V.alloc (.cells (zC.enc a).toArray 3)).heap.size=V.heap.size+1:=wz _ _;have sV:=hbV.size;refine jj (E:=zC) (T:=3) (B:=X.heap.size) (l:=l) (news:=[a]) (cap:=c) (m:=1) Tryz.underlying62 k3 rfl rfl rfl (ho.below hYa) rfl (qK zC a) (by omega) (by omega) (by show (l.length+1)*8<=_;omega) ?_;intro p2 c2 U oU gU hbU hat;refine⟨by omega,_,jX (e:=a) (by omega),_,zck hq (zZ (by omega)),?_⟩;have hlen:=zaq hq ha;refine⟨(qP q (2^a),l++[a],m,p2,c2),(cvE rfl rfl),⟨⟨step,by show (els (qP q (2^a))).length<=m;omega,by simp only [lap,Qp,QJ];omega,zag hq,fun i hi=>?_⟩,oU,?_⟩,zpG hq ha⟩
   ·rw [zdn hq ha] at hi;exact h48 i (QN.1 hi).1
   ·exact (hbY.trans (hYa.mono sY)).trans hbU
 ·have hc:(!decide ((q:Int)=0))=false:=hc;have h0:q=0:=by
   have h1:decide ((q:Int)=0)=true:=by simpa using hc
   exact Uu (dT h1)
  subst h0;have e:zer r=some l:=by
   rw [he]
   cases m <;> rfl
  rw [e];exact⟨⟨p,c,rfl,OwnS.lower ho wX⟩,hbX.trans (hbY.mono wX)⟩
theorem zdV (hr:zJ r.to) (hT:Tz64M w):CB 51 #[.agg (zf r).toArray] w (.bool (zaw r)):=by
 refine zF 11 [.agg (zf r).toArray] Tryz.func51 ?_;have f0:=zy w (.cells (zf r).toArray 39);have hb:Bw w (w.alloc (.cells (zf r).toArray 39)):=zba w _;refine⟨zf r,zg _,za f0,hlt f0,cmo (zul hr (hT.below hb)) ?_⟩;rintro e X ⟨⟨p,c,rfl,_⟩,hbX⟩;exact⟨rfl,(zst hb hbX)⟩
end
end Go.Proofs.YtkpaomeeknegpaaGreatDoor
namespace Go.Vc
open Go.RowKit
theorem KeepsG.more {F G:Nat->Prop} {A B:Wd} {g:Nat} (h:KeepsG G F A B) (hg:G g):KeepsG G (fun k=>F k\/k=g) A B :=
 ⟨h.os,h.tape,h.output,h.size,h.same,fun k hk=>hk.elim (h.fp k) fun e => .inl (by rw [e];exact hg)⟩
theorem zsi {α:Type} {E:Enc α} {P:Program} {w:Wd} {t T ty B g cap m c:Nat} {a:Addr} {l news:List α} {iT:TI} (hu:P.underlying t=some (.slice T)) (hT:TIok P T iT) (hs:iT.size=E.sz)
  (ho:OwnS E T B w (some ⟨g,0,none⟩) cap l) (hm:news.length=m) (hn:zI w a (news.flatMap E.enc)) (hroom:l.length+m<=cap) {K:Value->Wd->Prop}
  (k:∀ w',OwnS E T B w' (some ⟨g,0,none⟩) cap (l++news)->w.grownBy w' (some g)->K (.slice (some ⟨g,0,none⟩) (l++news).length cap) w') :
  SatR ((Builtin.append_ #[t,t] ty #[.slice (some ⟨g,0,none⟩) l.length cap,.slice (some a) m c]).run P w) K:=by
 obtain⟨⟨inf,hi,hsz,_,_⟩,_⟩:=hT;obtain⟨w',hr,ho',hg⟩:=run_append_fits (P:=P) w B t ty T inf E.sz hu hi (hsz.trans hs) g l.length cap (l.flatMap E.enc) ho a m c (news.flatMap E.enc) (by rw [qu,hm]) hn (zcw news) hroom;refine SatR.mk hr ?_;have hl:l.length+m=(l++news).length:=by simp [hm]
 have hf:l.flatMap E.enc++news.flatMap E.enc=(l++news).flatMap E.enc:=by rw [Ke]
 rw [hl,hf] at ho';rw [hl];exact k w' ho' hg
theorem OwnS.pref {α:Type} {E:Enc α} {T B cap g:Nat} {w:Wd} {l m:List α} (h:OwnS E T B w (some ⟨g,0,none⟩) cap (l++m)):OwnS E T B w (some ⟨g,0,none⟩) cap l:=by
 rcases h.inv with ⟨h,_⟩ | ⟨g',cur,hg,hB,hc,hl,hm,hs,ht⟩
 ·cases h
 ·simp only [KW,Up,Gc] at hg;subst hg;unfold OwnS World.ownsRow;refine⟨by rw [qu],.inr ⟨g,cap,cur,rfl,hB,hc,by rw [lap] at hl;omega,hm,hs,?_⟩⟩;have:=Gd (List.take (l.length*E.sz)) ht;rw [List.take_take,Ke,QS (qu l)] at this;rw [<- this];congr 1;rw [lap,UQ];omega
theorem zx {α:Type} {E:Enc α} {T B c:Nat} {Y:Wd} {q:OA} {l:List α} (h:OwnS E T B Y q c l) {a:Addr} (ha:q=some a):B<=a.block/\a.block<Y.heap.size/\∃ cur,Y.heap[a.block]?=some (.cells cur T (0,0)):=by
 rcases h.inv with ⟨h1,_⟩ | ⟨g,cur,h1,h2,h3,_⟩
 ·rw [h1] at ha;cases ha
 ·rw [h1] at ha;cases ha;exact⟨h2,hlt h3,cur,h3⟩
structure Gath {α:Type} (E:Enc α) (T TS B n0 L:Nat) (W:Wd) (NIn:(Nat->Prop)->Wd->α->Prop) (xs:List α) (F:Nat->Prop) (Y:Wd):Prop where
 size:n0<=Y.heap.size
 inL:F L
 lt:∀ k,F k->k<Y.heap.size
 row:∃ (p:OA) (c:Nat),Y.heap[L]?=some (.cells [.slice p xs.length c].toArray TS (0,0))/\OwnS E T B Y p c xs/\∀ a,p=some a->F a.block
 nest:∀ x∈xs,NIn F Y x
 old:Below B W Y
def ziI {α:Type} (T TS:Nat) (NIn:(Nat->Prop)->Wd->α->Prop):Prop :=
 ∀ (F G:Nat->Prop) (Y Z:Wd) (x:α),NIn F Y x->(∀ k cur T',F k->Y.heap[k]?=some (.cells cur T' (0,0))->T'≠T->T'≠TS->Z.heap[k]?=Y.heap[k]?)->(∀ k,F k->G k)->NIn G Z x
theorem Gath.iter {α σ:Type} {E:Enc α} {T TS B n0 L:Nat} {W:Wd} {NIn:(Nat->Prop)->Wd->α->Prop} {f:σ->List α->Prop} (hN:ziI T TS NIn) (hB:B<=n0) :
  JG n0 (fun _=>False) (fun (s:σ) F Y=>∃ xs,f s xs/\Gath E T TS B n0 L W NIn xs F Y):=by
 refine⟨?_,?_⟩
 ·rintro s F A C ⟨xs,hf,h⟩ hs;have sf:∀ k,F k->k<A.heap.size->C.heap[k]?=A.heap[k]?:=fun k hk hl=>hs.same k hl (.inr hk);obtain⟨p,c,h1,h2,h3⟩:=h.row;exact⟨xs,hf,UI h.size hs.size,h.inL,fun k hk=>nL (h.lt k hk) hs.size,⟨p,c,(sf L h.inL (h.lt L h.inL)).trans h1,h2.same fun a ha=>sf _ (h3 a ha) (h.lt _ (h3 a ha)),h3⟩,
   fun x hx=>hN F F A C x (h.nest x hx) (fun k _ _ hk _ _ _=>sf k hk (h.lt k hk)) fun k h=>h,h.old.trans ⟨hs.os,hs.tape,hs.output,hs.size,fun k hk=>hs.same k (nL (nL hk hB) h.size) (.inl ⟨by omega,fun h=>h⟩)⟩⟩
 ·rintro s F A k ⟨xs,_,h⟩ hk;exact⟨h.lt k hk,fun h=>h⟩
theorem Gath.stepX {α:Type} {E:Enc α} {P:Program} {T TS B n0 L ty cap1:Nat} {W Y2 Y3:Wd} {NIn:(Nat->Prop)->Wd->α->Prop} {xs:List α} {F:Nat->Prop} {iT iS:TI} {z:List Value} (hN:ziI T TS NIn) (hne:T≠TS)
  (hu:P.underlying TS=some (.slice T)) (hT:TIok P T iT) (hz:iT.zero=some z) (hs:iT.size=E.sz) (hzl:z.length=E.sz) (hS:TIok P TS iS) (hS1:iS.size=1)
  (h:Gath E T TS B n0 L W NIn xs F Y2) (hB:B<=n0) (hL:B<=L) (hb3:Bw Y2 Y3) (nx:α) (hl:xs.length+1<=4611686018427387904) (hby:(xs.length+1)*iT.bytes<=140737488355328)
  (zy:∀ (G:Nat->Prop) (Z:Wd),(∀ k,Y2.heap.size<=k->k<Y3.heap.size->Z.heap[k]?=Y3.heap[k]?)->(∀ k,Y2.heap.size<=k->k<Y3.heap.size->G k)->(∀ k cur T',F k->Y2.heap[k]?=some (.cells cur T' (0,0))->T'≠T->T'≠TS->Z.heap[k]?=Y2.heap[k]?)->(∀ k,F k->G k)->NIn G Z nx) :
  ∀ p c,Y2.heap[L]?=some (.cells [.slice p xs.length c].toArray TS (0,0)) ->
  ∃ v Y5,(Builtin.append_ #[TS,TS] ty #[.slice p xs.length c,.slice (some ⟨Y3.heap.size,0,none⟩) 1 cap1]).run P (Y3.alloc (.cells (E.enc nx).toArray T)) = .ok v Y5 /\
   ∃ Z,(storeVar TS ⟨L,0,none⟩ v).run P Y5 = .ok () Z/\∃ F',Gath E T TS B n0 L W NIn (xs++[nx]) F' Z/\KeepsG F F' Y2 Z/\∀ k,F k->F' k:=by
 intro p c h4;obtain⟨p',c',h4',h5,h6⟩:=h.row;rw [h4] at h4';simp at h4';obtain⟨rfl,rfl⟩:=h4';have h1:=h.size;have h2:=h.inL;have h3:=h.lt;have hba:Bw Y3 (Y3.alloc (.cells (E.enc nx).toArray T)):=zba _ _;have sa:(Y3.alloc (.cells (E.enc nx).toArray T)).heap.size=Y3.heap.size+1:=wz _ _;have s3:Y2.heap.size<=Y3.heap.size:=hb3.size;have hb2:Bw Y2 (Y3.alloc (.cells (E.enc nx).toArray T)):=hb3.trans (hba.mono s3);have hap:SatR ((Builtin.append_ #[TS,TS] ty #[.slice p xs.length c,.slice (some ⟨Y3.heap.size,0,none⟩) 1 cap1]).run P (Y3.alloc (.cells (E.enc nx).toArray T))) fun v Y5=>∃ p2 c2,v = .slice p2 (xs++[nx]).length c2/\OwnS E T B Y5 p2 c2 (xs++[nx])/\(Y3.alloc (.cells (E.enc nx).toArray T)).grownBy Y5 (Value.slice p xs.length c).ownBlock/\∀ a,p2=some a->p=some a\/a.block=(Y3.alloc (.cells (E.enc nx).toArray T)).heap.size :=
  jj (E:=E) (T:=T) (B:=B) (l:=xs) (news:=[nx]) (cap:=c) (m:=1) hu hT hz hs hzl (h5.below hb2) rfl (by
   have:=zfA (w:=Y3) (cs:=(E.enc nx).toArray) (t:=T);simpa using this) (by omega) (by omega) hby fun p2 c2 Y5 o5 g5 hb5 hat=>⟨p2,c2,rfl,o5,g5,hat⟩
 obtain⟨v,Y5,hrun,p2,c2,rfl,o5,g5,hat⟩:=hap;have pb:∀ {k:Nat},(Value.slice p xs.length c).ownBlock=some k->∃ a,p=some a/\a.block=k:=fun {k} e=>by
  cases hp:p with
  | none=>rw [hp] at e;simp [Value.ownBlock] at e
  | some a =>
   rw [hp] at e;simp only [Value.ownBlock,KW] at e;exact⟨a,rfl,e⟩
 have h4':Y5.heap[L]?=some (.cells [.slice p xs.length c].toArray TS (0,0)):=by
  refine (g5.block L (hlt (zb hb2 h4)) fun e=>?_).trans (zb hb2 h4);obtain⟨a,hp,e⟩:=pb e.symm;obtain⟨_,_,cur,hcur⟩:=zx h5 hp;rw [e,h4] at hcur;simp at hcur;exact hne hcur.2.symm
 have hst:SatR ((storeVar TS ⟨L,0,none⟩ (.slice p2 (xs++[nx]).length c2)).run P Y5) fun _ Z=>Z.heap[L]?=some (.cells [.slice p2 (xs++[nx]).length c2].toArray TS (0,0))/\Y5.grownBy Z (some L)/\Z.heap.size=Y5.heap.size :=
  zm hS h4' (o:=0) (v := .slice p2 (xs++[nx]).length c2) rfl hS1 (by show 0<1;decide) rfl fun Z fZ gZ sZ=>⟨fZ,gZ,sZ⟩
 obtain⟨u,Z,hrun2,fZ,gZ,sZ⟩:=hst;have s5:=g5.size;refine⟨_,Y5,hrun,Z,hrun2,fun k=>F k\/(Y2.heap.size<=k/\k<Z.heap.size),?_⟩;have wr:∀ k,k<Y2.heap.size->k≠L->(∀ a,p=some a->k≠a.block)->Z.heap[k]?=Y2.heap[k]?:=fun k hk hne hnp=>by
  refine (gZ.block k (by omega) (by simpa using hne)).trans ((g5.block k (by omega) fun e=>?_).trans (hb2.block k hk));obtain⟨a,hp,e⟩:=pb e.symm;exact hnp a hp e.symm
 have new:∀ k,Y2.heap.size<=k->k<Y3.heap.size->Z.heap[k]?=Y3.heap[k]?:=fun k hk1 hk2=>by
  have hL2:=h3 L h2;refine (gZ.block k (by omega) (by simp;omega)).trans ((g5.block k (by omega) fun e=>?_).trans (hba.block k hk2));obtain⟨a,hp,e⟩:=pb e.symm;have:=h3 _ (h6 a hp);omega
 have ty':∀ k cur T',F k->Y2.heap[k]?=some (.cells cur T' (0,0))->T'≠T->T'≠TS->Z.heap[k]?=Y2.heap[k]?:=fun k cur T' hk hc t1 t2=>by
  refine wr k (h3 k hk) (fun e=>?_) fun a ha e=>?_
  ·rw [e,h4] at hc;simp at hc;exact t2 hc.2.symm
  ·obtain⟨_,_,cur',hcur'⟩:=zx h5 ha;rw [<- e,hc] at hcur';simp at hcur';exact t1 hcur'.2
 refine⟨⟨by omega,.inl h2,fun k hk=>?_,⟨p2,c2,fZ,o5.kept gZ fun g hg e=>?_,fun a ha=>?_⟩,fun y hy=>?_,?_⟩,⟨gZ.os.trans (g5.os.trans hb2.os),gZ.tape.trans (g5.tape.trans hb2.tape),gZ.output.trans (g5.output.trans hb2.output),by omega,fun k hk hf=>wr k hk (fun e=>hf (by rw [e];exact h2)) (fun a ha e=>hf (by rw [e];exact h6 a ha)),fun k hk=>hk.imp id fun h=>h.1⟩,fun k hk => .inl hk⟩
 ·rcases hk with hk | hk
  ·have:=h3 k hk;omega
  ·exact hk.2
 ·obtain⟨_,_,cur,hcur⟩:=zx o5 hg;simp only [KW] at e;have hcur:Y5.heap[g]?=_:=hcur;rw [<- e,h4'] at hcur;simp at hcur;exact hne hcur.2.symm
 ·rcases hat a ha with h | h
  ·exact .inl (h6 a h)
  ·have:=(zx o5 ha).2.1;exact .inr ⟨by omega,by omega⟩
 ·rcases QM.1 hy with hy | hy
  ·exact hN F _ Y2 Z y (h.nest y hy) ty' fun k hk => .inl hk
  ·simp only [Ky] at hy;subst hy;exact zy _ Z new (fun k hk1 hk2 => .inr ⟨hk1,by omega⟩) ty' fun k hk => .inl hk
 ·refine h.old.trans ⟨gZ.os.trans (g5.os.trans hb2.os),gZ.tape.trans (g5.tape.trans hb2.tape),gZ.output.trans (g5.output.trans hb2.output),by omega,fun k hk=>wr k (by omega) (by omega) fun a ha=>?_⟩;have:=(zx h5 ha).1;omega
theorem Gath.step {α:Type} {E:Enc α} {P:Program} {T TS B n0 L ty cap1:Nat} {W Y2 Y3:Wd} {NIn:(Nat->Prop)->Wd->α->Prop} {xs:List α} {F:Nat->Prop} {iT iS:TI} {z:List Value} (hN:ziI T TS NIn) (hne:T≠TS)
  (hu:P.underlying TS=some (.slice T)) (hT:TIok P T iT) (hz:iT.zero=some z) (hs:iT.size=E.sz) (hzl:z.length=E.sz) (hS:TIok P TS iS) (hS1:iS.size=1)
  (h:Gath E T TS B n0 L W NIn xs F Y2) (hB:B<=n0) (hL:B<=L) (hb3:Bw Y2 Y3) (nx:α) (hl:xs.length+1<=4611686018427387904) (hby:(xs.length+1)*iT.bytes<=140737488355328)
  (zy:∀ (G:Nat->Prop) (Z:Wd),(∀ k,Y2.heap.size<=k->k<Y3.heap.size->Z.heap[k]?=Y3.heap[k]?)->(∀ k,Y2.heap.size<=k->k<Y3.heap.size->G k)->NIn G Z nx) :
  ∀ p c,Y2.heap[L]?=some (.cells [.slice p xs.length c].toArray TS (0,0)) ->
  ∃ v Y5,(Builtin.append_ #[TS,TS] ty #[.slice p xs.length c,.slice (some ⟨Y3.heap.size,0,none⟩) 1 cap1]).run P (Y3.alloc (.cells (E.enc nx).toArray T)) = .ok v Y5 /\
   ∃ Z,(storeVar TS ⟨L,0,none⟩ v).run P Y5 = .ok () Z/\∃ F',Gath E T TS B n0 L W NIn (xs++[nx]) F' Z/\KeepsG F F' Y2 Z/\∀ k,F k->F' k :=
 h.stepX hN hne hu hT hz hs hzl hS hS1 hB hL hb3 nx hl hby fun G Z h1 h2 _ _=>zy G Z h1 h2
end Go.Vc
namespace Go.Proofs.YtkpaomeeknegpaaGreatDoor
open Go.Vc Go.RowKit Go.Sei
abbrev zY (X:Wd) (b:Nat) (r:RelD):Prop:=X.heap[b]?=some (.cells (zf r).toArray 39 (0,0))
def StO (pre:List (List Nat)) (vs:List Value) (W:Wd):Prop:=∃ l q c,pre.getLast?=some l/\vs=[.slice q l.length c]/\SlR zC W q l/\(q=none->c=0)/\∀ a,q=some a->∃ cur,W.heap[a.block]?=some (.cells cur 3 (0,0))
section
variable {yl n0 n bB:Nat} {J Jx:List (List Nat)->(Nat->Prop)->Wd->Prop} {xs:List (List Nat)} {r:RelD}
theorem zpU (hJ:JG n0 (fun _=>False) J) (hn0:∀ pre F X,J pre F X->n0<=X.heap.size) (hy:∀ pre x vs F W1,J pre F W1->StO (pre++[x]) vs W1->(pre++[x]) <+: xs->YieldR PG yl vs.toArray W1 fun v W2=>(v = .bool true/\∃ F',J (pre++[x]) F' W2/\KeepsG F F' W1 W2)\/(v = .bool false/\∃ F',Jx (pre++[x]) F' W2)) (hr:zJ r.to) (hn:n<=48) (ht0:1<n0) :
  ∀ (m left:Nat) (l:List Nat) (g:Nat) (pre:List (List Nat)) (F:Nat->Prop) (X:Wd),(els left).length<=m->left<2^64->(∀ i∈els left,i<48)->l.length+(els left).length<=n->OwnS zC 3 n0 X (some ⟨g,0,none⟩) n l->¬ F g->J pre F X->zY X bB r->¬ F bB->n0<=bB->bB≠g->Tz64M X->¬ F 1->(pre++zao r.to m left l) <+: xs ->
   Calls PG 180 #[At0 bB,s64 left,.slice (some ⟨g,0,none⟩) l.length n,.func (.yield yl) #[] #[]] X fun e Y =>
    (e = .returned (.bool true)/\∃ F',J (pre++zao r.to m left l) F' Y/\KeepsG (fun k=>F k\/k=g) F' X Y/\OwnS zC 3 n0 Y (some ⟨g,0,none⟩) n l/\¬ F' g)\/(e = .returned (.bool false)/\∃ pre' F',pre' <+: xs/\Jx pre' F' Y):=by
 intro m
 induction m with
 | zero =>
  intro left l g pre F X hm hlt64 h48 hln ho hFg hj hR hFb hbn hbg hT hFt hpre;have h0:left=0:=by
   apply Jo;intro h0;rw [(jO h0 hlt64).1] at hm;simp at hm
  subst h0;refine zF 56 [At0 bB,s64 0,.slice (some ⟨g,0,none⟩) l.length n,.func (.yield yl) #[] #[]] Tryz.func180 ?_;refine brT ?_;have hs:zao r.to 0 0 l=[l]:=rfl;rw [hs] at hpre ⊢;refine YieldR.mono (hy pre l [.slice (some ⟨g,0,none⟩) l.length n] F X hj ⟨l,_,n,by simp,rfl,ho.row,fun h=>(by cases h),fun a ha=>(zx ho ha).2.2⟩ hpre) ?_;rintro v Z (⟨rfl,F',hJZ,hKZ⟩ | ⟨rfl,F',hJZ⟩)
  ·have hgl:g<X.heap.size:=(zx ho rfl).2.1;exact .inl ⟨rfl,F',hJZ,hKZ.weak fun k h => .inl h,ho.same fun a ha=>by cases ha;exact hKZ.same g hgl hFg,fun h=>by
    rcases hKZ.fp g h with h | h
    ·exact hFg h
    ·omega⟩
  ·exact .inr ⟨rfl,_,F',hpre,hJZ⟩
 | succ m ih =>
  intro left l g pre F X hm hlt64 h48 hln ho hFg hj hR hFb hbn hbg hT hFt hpre;refine zF 56 [At0 bB,s64 left,.slice (some ⟨g,0,none⟩) l.length n,.func (.yield yl) #[] #[]] Tryz.func180 ?_;have hgl:g<X.heap.size:=(zx ho rfl).2.1;have hgn:n0<=g:=(zx ho rfl).1;refine biE (fun h=>?_) fun h=>?_
  ·have h:left=0:=Uu (dT h);subst h;have hs:zao r.to (m+1) 0 l=[l]:=rfl;rw [hs] at hpre ⊢;refine YieldR.mono (hy pre l [.slice (some ⟨g,0,none⟩) l.length n] F X hj ⟨l,_,n,by simp,rfl,ho.row,fun h=>(by cases h),fun a ha=>(zx ho ha).2.2⟩ hpre) ?_;rintro v Z (⟨rfl,F',hJZ,hKZ⟩ | ⟨rfl,F',hJZ⟩)
   ·exact .inl ⟨rfl,F',hJZ,hKZ.weak fun k h => .inl h,ho.same fun a ha=>by cases ha;exact hKZ.same g hgl hFg,fun h=>by
    rcases hKZ.fp g h with h | h
    ·exact hFg h
    ·omega⟩
   ·exact .inr ⟨rfl,_,F',hpre,hJZ⟩
  have h:left≠0:=fun e=>(dF h) (by rw [e];rfl);obtain⟨G,hG⟩:∃ G:Nat->List (List Nat),G=fun a=>if r.to a&&&left=0 then zao r.to m (jE left (2^a)) (l++[a]) else []:=⟨_,rfl⟩
  have hs:zao r.to (m+1) left l=(els left).flatMap G:=by
   rw [hG];show (if left=0 then [l] else _)=_;rw [Gh h]
  rw [hs] at hpre ⊢;refine cmo (za2 hlt64 hT) ?_;rintro e X1 ⟨rfl,hb1⟩;refine⟨Nat×List Nat×(Nat->Prop),fun s=>⟨[(0,At0 bB),(1,s64 left),(2,.slice (some ⟨g,0,none⟩) l.length n),(3,.func (.yield yl) #[] #[]),(9,s64 s.1),(10,i64 ((els s.1).headD 0:Nat)),(11,.bool (!(els s.1).isEmpty))],[]⟩,
   fun s Z=>(els left=s.2.1++els s.1/\s.1<2^64)/\J (pre++s.2.1.flatMap G) s.2.2 Z/\OwnS zC 3 n0 Z (some ⟨g,0,none⟩) n l/\¬ s.2.2 g/\zY Z bB r/\¬ s.2.2 bB/\Tz64M Z/\¬ s.2.2 1/\KeepsG (fun k=>F k\/k=g) s.2.2 X Z,fun s=>s.1,(left,[],F),
   (cvE rfl rfl),⟨⟨rfl,hlt64⟩,by show J (pre++[]) F X1;rw [QF];exact hJ.step _ _ _ _ hj (.below hb1),ho.below hb1,hFg,zb hb1 hR,hFb,hT.below hb1,hFt,KeepsG.below hb1 fun k h => .inl (.inl h)⟩,?_⟩
  rintro⟨q,don,F1⟩ Z ⟨⟨he,hq⟩,hjZ,hoZ,hgZ,hRZ,hbZ,hTZ,htZ,kZ⟩;dsimp only at he hq hjZ hgZ hbZ htZ kZ ⊢;have hZn:=hn0 _ _ _ hjZ;refine biE (fun hc=>?_) fun hc=>?_
  ·have h0:=zeV hq hc;obtain⟨e1,e2,_,e3⟩:=jO h0 hq;have hd:=(zbQ h0 hq).1;have hmem:ctz q∈els left:=by rw [he,e1];simp
   have hc48:ctz q<48:=h48 _ hmem;rw [e1] at he;have hpa:∀ t,(don++[ctz q]).flatMap t=don.flatMap t++t (ctz q):=fun t:Nat->List (List Nat)=>by
    rw [Ke,KO,Qm,QF]
   have next:∀ {Y:Wd} {F2:Nat->Prop},J (pre++(don++[ctz q]).flatMap G) F2 Y->OwnS zC 3 n0 Y (some ⟨g,0,none⟩) n l->¬ F2 g->zY Y bB r->¬ F2 bB->Tz64M Y->¬ F2 1->KeepsG (fun k=>F k\/k=g) F2 X Y ->
     ∀ Y2,Bw Y Y2->((els left=(don++[ctz q])++els (qp q)/\qp q<2^64)/\J (pre++(don++[ctz q]).flatMap G) F2 Y2/\OwnS zC 3 n0 Y2 (some ⟨g,0,none⟩) n l/\¬ F2 g/\zY Y2 bB r/\¬ F2 bB/\Tz64M Y2/\¬ F2 1/\KeepsG (fun k=>F k\/k=g) F2 X Y2) :=
    fun {Y F2} a1 a2 a3 a4 a5 a6 a7 a8 Y2 hb=>⟨⟨by rw [he];simp,by omega⟩,hJ.step _ _ _ _ a1 (.below hb),a2.below hb,a3,zb hb a4,a5,a6.below hb,a7,a8.trans (KeepsG.below hb fun k h => .inl h)⟩
   refine DrawE.ord [18,20] [0,1,2,3,4,5,6,7,8,9,10,11,12,13,14,15,16,19,17,18,20,21,22] (by kernel_rfl) ?_;have hdZ:Bw Z Z.drew:=(UW _ _).drew;refine⟨ctz q,Gd Nat.cast hd.symm,hc48,_,zaF (hdr hRZ) hc48,_,jY (hr _ hc48) hlt64,biE (fun hb=>?_) fun hb=>?_⟩
   ·have hb:r.to (ctz q)&&&left=0:=Uu (dT hb);have hGc:G (ctz q)=zao r.to m (jE left (2^ctz q)) (l++[ctz q]):=(by rw [hG];exact Gi hb);refine⟨by omega,((2^ctz q:Nat):Int),by rw [hd];exact jX (e:=ctz q) (by omega),_,zck hlt64 (zZ (by omega)),⟨by decide,by decide,rfl⟩,zC.enc (ctz q),by rw [hd];rfl,?_⟩;have hba:Below Z.drew.heap.size Z.drew (Z.drew.alloc (.cells (zC.enc (ctz q)).toArray 3)):=zba _ _;refine⟨hba,?_⟩;have hbA:Bw Z (Z.drew.alloc (.cells (zC.enc (ctz q)).toArray 3)):=hdZ.trans hba;have hll:=zaq hlt64 hmem;refine zsi (E:=zC) (l:=l) (news:=[ctz q]) (m:=1) Tryz.underlying62 k3 rfl (hoZ.below hbA) rfl (qK zC (ctz q)) (by
     have:1<=(els left).length:=(by rw [he];simp;omega);omega) ?_
    intro Y oY gY;have hjY:=hJ.step _ _ _ _ (hJ.step _ _ _ _ hjZ (.below hbA)) (StepG.grown gY (.inl hgn) hgZ);have sA:(Z.drew.alloc (.cells (zC.enc (ctz q)).toArray 3)).heap.size=Z.heap.size+1:=wz _ _;have hRY:zY Y bB r:=(gY.block bB (hlt (zb hbA hRZ)) (by simpa using hbg)).trans (zb hbA hRZ);have htl:=zaT hTZ;have hTY:Tz64M Y:=zal (hTZ.below hbA) (gY.block _ (by omega) (by
     intro e;have:1=g:=(by simpa using e);omega))
    have hpre2:((pre++don.flatMap G)++zao r.to m (jE left (2^ctz q)) (l++[ctz q])) <+: xs:=by
     refine List.IsPrefix.trans ?_ hpre;rw [he,<- hGc,Ke,KO];exact⟨(els (qp q)).flatMap G,by simp only [KL]⟩
    refine cmo (ih (qP left (2^ctz q)) (l++[ctz q]) g (pre++don.flatMap G) F1 Y (by omega) (zag hlt64) (fun i hi=>by
     rw [zdn hlt64 hmem] at hi;exact h48 i (QN.1 hi).1) (by simp only [lap,Qp,QJ];omega) oY hgZ hjY hRY hbZ hbn hbg hTY htZ hpre2) ?_
    rintro e V (⟨rfl,F2,hjV,kV,oV,hgV⟩ | ⟨rfl,pre',F2,hp',hjx⟩)
    ·refine brF ?_;have kZY:KeepsG (fun k=>F1 k\/k=g) (fun k=>F1 k\/k=g) Z Y:=(KeepsG.below hbA fun k h => .inl h).trans (KeepsG.grown gY (.inr rfl));have kW:KeepsG (fun k=>F k\/k=g) F2 X V:=((kZ.more (.inr rfl)).trans kZY).trans kV;have sY:=gY.size;have kYV:=kV.size;have hbV:¬ F2 bB:=fun h=>by
      have:=hlt hRY;rcases kV.fp bB h with (h | h) | h
      ·exact hbZ h
      ·exact hbg h
      ·omega
     have htV:¬ F2 1:=fun h=>by
      rcases kV.fp _ h with (h | h) | h
      ·exact htZ h
      ·omega
      ·omega
     have hRV:zY V bB r:=(kV.same bB (hlt hRY) (fun h=>h.elim hbZ hbg)).trans hRY;have hTV:Tz64M V:=zal hTY (kV.same _ (by omega) (fun h=>h.elim htZ fun e=>by omega));refine⟨((q-1:Nat):Int),(w64 (a:=(q:Int)-1) (by omega)).trans (by omega),((qp q:Nat):Int),jY (a:=q) (b:=q-1) hq (by omega),cmo (za2 (s:=qp q) (by omega) hTV) ?_⟩;rintro e U ⟨rfl,hbU⟩;exact⟨(qp q,don++[ctz q],F2),(cvE rfl rfl),next (by rw [hpa,hGc,<- KL];exact hjV) oV.pref hgV hRV hbV hTV htV kW U hbU,e2⟩
    ·exact brT (.inr ⟨rfl,pre',F2,hp',hjx⟩)
   ·have hb:¬ r.to (ctz q)&&&left=0:=fun e=>(dF hb) (by rw [e];rfl);have hGc:G (ctz q)=[]:=(by rw [hG];exact Gh hb);refine brF ⟨((q-1:Nat):Int),(w64 (a:=(q:Int)-1) (by omega)).trans (by omega),((qp q:Nat):Int),jY (a:=q) (b:=q-1) hq (by omega),cmo (za2 (s:=qp q) (by omega) (hTZ.below hdZ)) ?_⟩;rintro e Y ⟨rfl,hbY⟩;exact⟨(qp q,don++[ctz q],F1),(cvE rfl rfl),next (by rw [hpa,hGc,QF];exact hjZ) hoZ hgZ hRZ hbZ hTZ htZ kZ Y (hdZ.trans hbY),e2⟩
  ·have hc:(els q).isEmpty=true:=by simpa using hc
   have:=zcQ hq hc;subst this;rw [zah,QF] at he;rw [he];exact .inl ⟨rfl,F1,hjZ,kZ,hoZ,hgZ⟩
end
theorem zbB {n:Nat} {f:Nat->Value} (h:∀ i,(f i).oneCell'=true):(seg n f).all Value.oneCell'=true:=by
 unfold seg;rw [Qg];intro u hu;obtain⟨i,_,rfl⟩:=UF.1 hu;exact h i
theorem znz:(zmr).toArray.size=259:=by kernel_rfl
theorem zpd (R:RunD):(qO R).all Value.oneCell'=true:=by
 unfold qO;rw [Uv,QE,QE,QE,QE,QE,QE,zbB fun _=>rfl,zbB fun _=>rfl,zbB fun _=>rfl,zbB fun _=>rfl,zbB fun _=>rfl];have:(zej R.ev).all Value.oneCell'=true:=Qg.2 fun u hu=>zcw (E:=evE) _ u hu;rw [this];rfl
theorem je {α:Type} {E:Enc α} {w X:Wd} {q:OA} {l:List α} (h:SlR E w q l) (hs:∀ a,q=some a->X.heap[a.block]?=w.heap[a.block]?):SlR E X q l:=by
 rcases h with h | ⟨b',o,h1,h2,h3⟩
 ·exact .inl h
 ·have h4:=hs _ h1;have h4:X.heap[b']?=w.heap[b']?:=h4;refine .inr ⟨b',o,h1,?_,fun i hi=>js h4 (h3 i hi)⟩;have h5:w.heap[b']?=some w.heap[b']:=Jn h2;rw [h5] at h4;exact hlt h4
structure RowF {α:Type} (E:Enc α) (n0:Nat) (F:Nat->Prop) (X:Wd) (q:OA) (l:List α):Prop where
 row:SlR E X q l
 out:∀ a,q=some a->a.block<n0/\¬ F a.block
theorem RowF.keep {α:Type} {E:Enc α} {n0:Nat} {F F' G:Nat->Prop} {X Y:Wd} {q:OA} {l:List α} (h:RowF E n0 F X q l) (hn:n0<=X.heap.size) (k:KeepsG G F' X Y) (hG:∀ k,k<n0->G k->F k):RowF E n0 F' Y q l:=by
 refine⟨je h.row fun a ha=>?_,fun a ha=>⟨(h.out a ha).1,fun hf=>?_⟩⟩
 ·have:=h.out a ha;exact k.same _ (by omega) fun hg=>this.2 (hG _ this.1 hg)
 ·have:=h.out a ha;rcases k.fp _ hf with h2 | h2
  ·exact this.2 (hG _ this.1 h2)
  ·omega
def StR (pre:List RunD) (vs:List Value) (W:Wd):Prop:=∃ R b,pre.getLast?=some R/\vs=[AtR b]/\jw W b R
section
variable {yl n0 cap cd:Nat} {J Jx:List RunD->(Nat->Prop)->Wd->Prop} {xs:List RunD} {l:List InsD} {dom:List UInt8} {q p:OA}
theorem zjn {w:Wd}:Calls PG 103 #[.slice q l.length cap,.slice p dom.length cd] w fun e w'=>e = .returned (.func (.func 148) #[] #[AtR w.heap.size,AtR (w.heap.size+1)])/\w'.heap[w.heap.size]?=some (.cells #[.slice q l.length cap] 51 (0,0))/\w'.heap[w.heap.size+1]?=some (.cells #[.slice p dom.length cd] 23 (0,0))/\w'.heap.size=w.heap.size+2/\Bw w w':=by
 refine zF 6 [.slice q l.length cap,.slice p dom.length cd] Tryz.func103 ?_;have s1:=wz w (.cells #[.slice q l.length cap] 51);have h2:=zy (w.alloc (.cells #[.slice q l.length cap] 51)) (.cells #[.slice p dom.length cd] 23);have s2:=wz (w.alloc (.cells #[.slice q l.length cap] 51)) (.cells #[.slice p dom.length cd] 23);rw [s1] at h2 s2;refine⟨?_,qJ _ (zy w _),h2,s2,((zba w _)).alloc (by simp) _⟩;rw [<- s1];rfl
end
theorem ztr {P:Program} {t e:TypeId} (hu:P.underlying t=some (.slice e)) (d:Nat) (a:OA) (n c:Nat) (w:Wd):(Op.equalIn (d+1) t (.slice a n c) (.slice none 0 0)).run P w = .ok a.isNone w:=by
 cases a <;> simp [Op.equalIn,Uo hu]
theorem zjh {n m:Nat} (h:n<256) (hm:Nat.ble 256 m=true):n<m:=nL h (JR hm)
theorem zts {P:Program} {t e:TypeId} (hu:P.underlying t=some (.slice e)) (x y:Operand) (a:OA) (n c:Nat) (w:Wd):(do eqGuard .eql t x y (.slice a n c) (.slice none 0 0);binOp .eql t (.slice a n c) (.slice none 0 0):Sem Value).run P w = .ok (.bool a.isNone) w:=by
 have h:(Op.equal t (.slice a n c) (.slice none 0 0)).run P w = .ok a.isNone w:=by
  exact ztr hu 9999 a n c w
 have h1:(eqGuard .eql t x y (.slice a n c) (.slice none 0 0)).run P w = .ok () w:=by
  simp only [eqGuard,Ur,Kr,Ge,UP]
 rw [UO,h1];simp only [KX,binOp,UO,h,UP]
theorem zgN {α:Type} {E:Enc α} {T:TypeId} {w:Wd}:OwnS E T w.heap.size (w.alloc (.cells #[] T)) (some ⟨w.heap.size,0,none⟩) 0 []:=by
 unfold OwnS World.ownsRow;exact⟨by simp,.inr ⟨w.heap.size,0,#[],rfl,UR _,zy w _,UR _,UU _,by simp,by simp⟩⟩
theorem zlj {p:OA} {cap:Nat} {l:List UInt8} {w:Wd} (hl:SlR zR w p l) (hn:l.length<=1000000) (hc:p=none->cap=0) :
  Calls PG 72 #[.slice p l.length cap] w fun e w'=>(∃ q c,e = .returned (.slice q l.length c)/\OwnS zR 5 w.heap.size w' q c l)/\Bw w w':=by
 refine zF 8 [.slice p l.length cap] Tryz.func72 ?_;refine⟨_,fun w=>zts Tryz.underlying23 _ _ p l.length cap w,?_⟩
 cases p with
 | none =>
  refine brT ?_;have e:=hl.none;subst e;exact⟨⟨none,0,rfl,OwnS.nil⟩,UW _ _⟩
 | some a =>
  refine brF ⟨⟨by decide,by decide,rfl⟩,[],rfl,?_⟩;have hb0:Bw w (w.alloc (.cells #[] 5)):=zba w _;refine zgl (E:=zR) (T:=5) (B:=w.heap.size) (l:=[]) (news:=l) (cap:=0) Tryz.underlying23 k5 rfl rfl rfl zgN rfl (hl.below hb0) (fun h=>by cases h) hb0.size (by simp;omega) (by simp;omega) ?_;intro p' cap' w' ho hg hbw;exact⟨⟨p',cap',rfl,ho⟩,hb0.trans hbw⟩
theorem ztc {x:UInt8} {w:Wd}:Calls PG 192 #[u8 x] w fun e w'=>e = .returned (.bool false)/\w=w':=by
 refine zF 6 [u8 x] Tryz.func192 ?_;refine⟨rb ?_,rfl⟩;rw [Un rfl];rfl
theorem jH {x y:UInt8} {w:Wd}:Calls PG 171 #[u8 x,u8 y] w fun e w'=>e = .returned (.bool (decide ((x.toNat:Int)<(y.toNat:Int))))/\w=w':=by
 refine zF 17 [u8 x,u8 y] Tryz.func171 ?_;refine cmo ztc ?_;rintro e _ ⟨rfl,rfl⟩;exact brF (brF ⟨rfl,rfl⟩)
section
variable {r:RelD}
theorem zuk {bx:Nat} {W0:Wd} (hr:zJ r.to) (hn:r.n<=48) (fx:zY W0 bx r) (hT:Tz64M W0) :
  ziJ PG 179 [At0 bx] (zbq r) W0 (fun k=>k=bx\/k=1) (fun _=>False) StO:=by
 intro yl F0 J Jx W hsz hrd hrf hJ hJx hy h0;have fxW:zY W bx r:=(hrd bx (.inl (.inl rfl))).trans fx;have hTW:Tz64M W:=zal hT (hrd _ (.inl (.inr rfl)));refine zF 17 [.func (.yield yl) #[] #[],At0 bx] Tryz.func179 ?_;refine⟨zf r,zg _,za fxW,hlt fxW,cmo (zdV hr hTW) ?_⟩;rintro e X ⟨rfl,hbX⟩;refine biE (fun h=>?_) fun h=>?_
 ·have h:zaw r=false:=by
   have h:(!zaw r)=true:=h;simpa using h
  have hs:zbq r=[]:=by unfold zbq;rw [h];rfl
  rw [hs];exact⟨⟨_,rfl⟩,.inl ⟨F0,hJ.step _ _ _ _ h0 (.below hbX)⟩⟩
 have h:zaw r=true:=by
  have h:(!zaw r)=false:=h;simpa using h
 have hs:zbq r=zao (zV r).to 64 (j7 r.n) []:=by unfold zbq;rw [h];rfl
 rw [hs] at hy ⊢;refine⟨zf r,zg _,za (zb hbX fxW),hlt (zb hbX fxW),cmo (zhK hr (hTW.below hbX)) ?_⟩;rintro e Y ⟨rfl,hbY,hrB⟩;have hbXY:=zst hbX hbY;refine zo (X:=Y) (v := .agg (zf (zV r)).toArray) k39 (zg _) (by kernel_rfl) (zE _) fun V hbV fV sV=>?_;have hbV2:=zst hbXY hbV;have fxV:=zb hbV2 fxW;have hTV:=hTW.below hbV2;have hok:okR r=true:=by
  unfold zaw zer at h
  split at h
  ·assumption
  ·simp at h
 obtain⟨p0,p48,_⟩:=jm hok;obtain⟨n,hnn⟩:∃ n:Nat,r.n=n:=⟨r.n.toNat,by omega⟩;have hn48:n<=48:=by omega
 have hal:els (zav n)=List.range n:=zdO (by omega);have wY:=hbXY.size;have hbVF:¬ F0 Y.heap.size:=fun h=>by have:=(hJ.lt _ _ _ _ h0 h).1;omega
 have htl:=zaT hTW;have hJn:JG W.heap.size (fun _=>False) (fun pre F Z=>J pre F Z/\W.heap.size<=Z.heap.size):=⟨fun s F A B ⟨h,hn⟩ hs=>⟨hJ.step _ _ _ _ h hs,UI hn hs.size⟩,fun s F A k ⟨h,_⟩ hk=>hJ.lt _ _ _ _ h hk⟩;have hal2:j7 r.n=zav n:=by rw [zaI,hnn]
 have main:∀ Z:Wd,OwnS zC 3 V.heap.size Z (some ⟨V.heap.size,0,none⟩) n []->Bw V Z->Calls PG 180 #[At0 Y.heap.size,s64 (zav n),.slice (some ⟨V.heap.size,0,none⟩) 0 n,.func (.yield yl) #[] #[]] Z fun e Y2=>(∃ v,e = .returned v)/\((∃ F',J (zao (zV r).to 64 (j7 r.n) []) F' Y2)\/∃ pre F',pre <+: zao (zV r).to 64 (j7 r.n) []/\Jx pre F' Y2):=by
  intro Z oZ hbZ;have hbWZ:Bw W Z:=zst hbV2 hbZ;refine cmo (zpU (l:=[]) (J:=fun pre F Z=>J pre F Z/\W.heap.size<=Z.heap.size) (Jx:=Jx) (n0:=W.heap.size) (n:=n) (bB:=Y.heap.size) (r:=zV r) (xs:=zao (zV r).to 64 (j7 r.n) []) hJn (fun _ _ _ h=>h.2) (fun pre x vs F W1 ⟨hj,hn⟩ hst hpre=>YieldR.mono (hy pre x vs F W1 hj hst hpre) fun v W2 h=>?_) hrB hn48 htl 64 (zav n) V.heap.size [] F0 Z (zeU _) (zaH _) (fun i hi=>by
   rw [hal] at hi;have:=Uj.1 hi;omega) (by rw [hal];simp) (oZ.lower hbV2.size) (fun h=>?_) ⟨hJ.step _ _ _ _ h0 (.below hbWZ),hbWZ.size⟩ (zb hbZ fV) hbVF wY (by omega) (hTV.below hbZ) (hrf _ (.inr rfl)) (by rw [hal2];exact List.prefix_refl _)) ?_
  ·rcases h with ⟨rfl,F',h1,h2⟩ | h
   ·exact .inl ⟨rfl,F',⟨h1,UI hn h2.size⟩,h2⟩
   ·exact .inr h
  ·have:=(hJ.lt _ _ _ _ h0 h).1;have:=hbV2.size;omega
  ·rintro e Y2 (⟨rfl,F',⟨hj,_⟩,_⟩ | ⟨rfl,pre',F',h1,h2⟩)
   ·rw [hal2];exact⟨⟨_,rfl⟩,.inl ⟨F',hj⟩⟩
   ·exact⟨⟨_,rfl⟩,.inr ⟨pre',F',h1,h2⟩⟩
 refine DrawE.treeQ [7] (.op 0 (.op 1 (.op 3 (.op 4 (.op 6 (.alt (.op 2 (.op 5 (.op 7 .nil))) (.op 5 (.op 2 (.op 7 .nil))))))))) (by kernel_rfl) ⟨i64 n,by rw [<- hnn];exact zc (za fxV) (i:=0) rfl,i64 n,by rw [<- hnn];exact zc (za fxV) (i:=0) rfl,Ga ?_ ?_⟩
 ·refine cmo ziL ?_;rintro e _ ⟨rfl,rfl⟩;refine⟨UW _ _,zdh (E:=zC) Tryz.underlying62 k3 rfl rfl rfl n (by show 8*n<=_;omega) (by unfold maxLen;omega) fun Z oZ hbZ sZ=>⟨hbZ,cmo (main Z oZ (((UW _ V).drew).trans hbZ)) ?_⟩⟩;rintro e Y2 ⟨⟨v,rfl⟩,h⟩;exact⟨⟨_,rfl⟩,h⟩
 ·refine zdh (E:=zC) Tryz.underlying62 k3 rfl rfl rfl n (by show 8*n<=_;omega) (by unfold maxLen;omega) fun Z oZ hbZ sZ=>⟨hbZ,cmo ziL ?_⟩;rintro e _ ⟨rfl,rfl⟩;refine⟨UW _ _,cmo (main Z oZ (((UW _ V).drew).trans hbZ)) ?_⟩;rintro e Y2 ⟨⟨v,rfl⟩,h⟩;exact⟨⟨_,rfl⟩,h⟩
theorem ztM {w:Wd}:Calls PG 153 #[.agg (zf r).toArray] w fun e w'=>e = .returned (.func (.func 179) #[] #[At0 w.heap.size])/\zY w' w.heap.size r/\w'.heap.size=w.heap.size+1/\Bw w w':=by
 refine zF 4 [.agg (zf r).toArray] Tryz.func153 ?_;exact⟨rfl,zy w _,wz _ _,(zba w _)⟩
theorem zoO {b:Nat} {m:Nat} {w:Wd} (hr:zJ r.to) (fb:zY w b r):CB 152 #[At0 b,i64 m] w (.bool (decide (m<=10000)&&okR r)):=by
 refine zF 17 [At0 b,i64 m] Tryz.func152 ?_;refine biE (fun h=>?_) fun h=>?_
 ·refine biE (fun h2=>?_) fun h2=>?_
  ·have h2:(m:Int)<=10000:=dT h2;refine⟨zf r,zg _,za fb,hlt fb,cmo (jV hr) ?_⟩;rintro e Y ⟨rfl,hbY⟩;exact⟨rb (by rw [Un (show m<=10000 by omega),Ut]),hbY⟩
  ·have h2:¬ (m:Int)<=10000:=dF h2;exact⟨rb (by rw [Uc (show ¬ m<=10000 by omega),Ue]),UW _ _⟩
 ·have h:¬ (0:Int)<=m:=dF h;omega
end
def jf:Enc (List Nat×OA×Nat) where
 sz:=1
 enc x:=[.slice x.2.1 x.1.length x.2.2]
 len x:=rfl
 one x v hv:=by
  simp at hv;subst hv;rfl
 pos:=by decide
theorem zqJ {p:OA} {cap:Nat} {l:List Nat} {w:Wd} (hl:SlR zC w p l) (hn:l.length<=100000) (hc:p=none->cap=0) :
  Calls PG 154 #[.slice p l.length cap] w fun e w'=>(∃ q c,e = .returned (.slice q l.length c)/\OwnS zC 3 w.heap.size w' q c l)/\Bw w w':=by
 refine zF 8 [.slice p l.length cap] Tryz.func154 ?_;refine⟨_,fun w=>zts Tryz.underlying62 _ _ p l.length cap w,?_⟩
 cases p with
 | none =>
  refine brT ?_;have e:=hl.none;subst e;exact⟨⟨none,0,rfl,OwnS.nil⟩,UW _ _⟩
 | some a =>
  refine brF ⟨⟨by decide,by decide,rfl⟩,[],rfl,?_⟩;have hb0:Bw w (w.alloc (.cells #[] 3)):=zba w _;refine zgl (E:=zC) (T:=3) (B:=w.heap.size) (l:=[]) (news:=l) (cap:=0) Tryz.underlying62 k3 rfl rfl rfl zgN rfl (hl.below hb0) (fun h=>by cases h) hb0.size (by simp;omega) (by show (0+l.length)*8<=_;omega) ?_;intro p' cap' w' ho hg hbw;exact⟨⟨p',cap',rfl,ho⟩,hb0.trans hbw⟩
def ztP (B:Nat) (F:Nat->Prop) (Y:Wd) (x:List Nat×OA×Nat):Prop:=OwnS zC 3 B Y x.2.1 x.2.2 x.1/\∀ a,x.2.1=some a->F a.block
theorem zfl (B:Nat):ziI 62 93 (ztP B):=by
 rintro F G Y Z x ⟨h1,h2⟩ hs hFG;refine⟨h1.same fun a ha=>?_,fun a ha=>hFG _ (h2 a ha)⟩;obtain⟨_,_,cur,hc⟩:=zx h1 ha;exact hs _ cur 3 (h2 a ha) hc (by decide) (by decide)
theorem zrJ {before:Nat->Nat}:∀ (m left:Nat) (l:List Nat),∀ x∈zao before m left l,x.length<=l.length+m:=by
 intro m
 induction m with
 | zero =>
  intro left l x hx;unfold zao at hx
  split at hx
  ·simp only [Ky] at hx;subst hx;omega
  ·cases hx
 | succ m ih =>
  intro left l x hx;unfold zao at hx
  split at hx
  ·simp only [Ky] at hx;subst hx;omega
  ·obtain⟨a,_,ha⟩:=List.mem_flatMap.1 hx
   split at ha
   ·have:=ih _ _ _ ha;simp only [lap,Qp,QJ] at this;omega
   ·cases ha
theorem zmW {r:RelD} {x:List Nat} (h:x∈zbq r):x.length<=64:=by
 unfold zbq at h
 split at h
 ·have:=zrJ _ _ _ x h;simpa using this
 ·cases h
def AscB (xs:List (List Nat×OA×Nat)):Prop:=xs.Pairwise fun x y=>∀ a b,x.2.1=some a->y.2.1=some b->a.block<b.block
theorem AscB.snoc {xs:List (List Nat×OA×Nat)} {n:Nat} {y:List Nat×OA×Nat} (h:AscB xs) (h1:∀ x∈xs,∀ a,x.2.1=some a->a.block<n) (h2:∀ a,y.2.1=some a->n<=a.block):AscB (xs++[y]):=by
 unfold AscB;rw [List.pairwise_append];refine⟨h,List.pairwise_singleton _ _,fun x hx z hz a b ha hb=>?_⟩;rw [Ky.1 hz] at hb;exact nL (h1 x hx a ha) (h2 b hb)
abbrev zt8:List (List Nat×OA×Nat):=[]
theorem zqC {r:RelD} {m:Nat} {w:Wd} (hr:zJ r.to) (hT:Tz64M w) (hm:m<=10000) (hok:okR r=true) :
  Calls PG 111 #[.agg (zf r).toArray,i64 m] w fun e w' =>
   (((zbq r).length<=m/\∃ (xs:List (List Nat×OA×Nat)) (p:OA) (c:Nat),e = .returned (.tuple #[.slice p xs.length c,i64 0])/\xs.map (·.1)=zbq r/\AscB xs/\OwnS jf 62 w.heap.size w' p c xs/\∀ x∈xs,OwnS zC 3 w.heap.size w' x.2.1 x.2.2 x.1) \/
    (m<(zbq r).length/\e = .returned (.tuple #[.slice none 0 0,i64 5])))/\Bw w w':=by
 refine qk 24 [.agg (zf r).toArray,i64 m] (.c .p (.s .p (.c .p .p))) Tryz.func111 ?_;obtain⟨L,hL⟩:=nm (w.heap.size);refine⟨Unit,fun _=>⟨[(2,At0 L),(3,At0 (L+1)),(4,At0 (L+2)),(5,At0 (L+3))],[]⟩,fun _ X=>(zY X L r/\X.heap[L+1]?=some (.cells #[i64 m] 3 (0,0))/\X.heap[L+2]?=some (.cells #[.slice none 0 0] 93 (0,0))/\X.heap[L+3]?=some (.cells #[i64 0] 56 (0,0)))/\X.heap.size=L+4/\Bw w X,?_,?_⟩
 ·have s1:=wz w (.cells (zf r).toArray 39);have h2:=zy (w.alloc (.cells (zf r).toArray 39)) (.cells #[i64 m] 3 (0,0));have s2:=wz (w.alloc (.cells (zf r).toArray 39)) (.cells #[i64 m] 3 (0,0));have h3:=zy ((w.alloc (.cells (zf r).toArray 39)).alloc (.cells #[i64 m] 3 (0,0))) (.cells #[.slice none 0 0] 93 (0,0));have s3:=wz ((w.alloc (.cells (zf r).toArray 39)).alloc (.cells #[i64 m] 3 (0,0))) (.cells #[.slice none 0 0] 93 (0,0));have h4:=zy (((w.alloc (.cells (zf r).toArray 39)).alloc (.cells #[i64 m] 3 (0,0))).alloc (.cells #[.slice none 0 0] 93 (0,0))) (.cells #[i64 0] 56 (0,0));have s4:=wz (((w.alloc (.cells (zf r).toArray 39)).alloc (.cells #[i64 m] 3 (0,0))).alloc (.cells #[.slice none 0 0] 93 (0,0))) (.cells #[i64 0] 56 (0,0));rw [s1] at h2 s2;rw [s2] at h3 s3;rw [s3] at h4 s4;rw [<- hL] at h2 s2 h3 s3 h4 s4;have f0:=qJ (.cells #[i64 0] 56 (0,0)) (qJ (.cells #[.slice none 0 0] 93 (0,0)) (qJ (.cells #[i64 m] 3 (0,0)) (zy w (.cells (zf r).toArray 39))));rw [<- hL] at f0;exact⟨(),⟨.cons (by rw [hL];rfl) (.cons (by rw [hL,<- s1];rfl) (.cons (by rw [<- s2];rfl) (.cons (by rw [<- s3];rfl) .nil))),rfl⟩,⟨f0,qJ _ (qJ _ h2),qJ _ h3,h4⟩,s4,((((zba w _)).alloc (by simp) _).alloc (by simp;omega) _).alloc (by simp;omega) _⟩
 rintro _ X ⟨⟨f0,f1,f2,f3⟩,sX,hbX⟩;refine⟨_,zc (za f1) (i:=0) rfl,cmo (zoO hr f0) ?_⟩;rintro e Y ⟨rfl,hbY⟩;refine brN (by rw [hok,Un hm];rfl) ?_;have hwY:=zst hbX hbY;obtain⟨M,hM⟩:=nm (Y.heap.size);have hMX:L+4<=M:=by have:=hbY.size;omega
 refine⟨Unit,fun _=>⟨[(2,At0 L),(3,At0 (L+1)),(4,At0 (L+2)),(5,At0 (L+3)),(6,At0 M)],[]⟩,fun _ V=>V.heap[M]?=some (.cells #[.slice none 0 0] 93 (0,0))/\V.heap.size=M+1/\Bw X V,?_,?_⟩
 ·exact⟨(),⟨.cons rfl (.cons rfl (.cons rfl (.cons rfl (.cons (by rw [hM];rfl) .nil)))),rfl⟩,by rw [hM];exact zy Y _,by rw [hM];exact wz Y _,hbY.alloc hbY.size _⟩
 rintro _ V ⟨fM,sV,hbV⟩;have hwV:=zst hbX hbV;have f0:=zb hbV f0;have f1:=zb hbV f1;have f2:=zb hbV f2;have f3:=zb hbV f3;refine⟨zf r,zg _,za f0,hlt f0,cmo ztM ?_⟩;rintro e W ⟨rfl,fx,sW,hbW⟩;obtain⟨p0,p48,_⟩:=jm hok;have hwW:=zst hwV hbW;have htl:=zaT hT;have hI:=zuk hr p48 fx (hT.below hwW);have f1:=zb hbW f1;have f2:=zb hbW f2;have f3:=zb hbW f3;have fM:=zb hbW fM;have hwL:w.heap.size=L:=hL.symm;clear hbV hbY hwY hbX f0 sX;refine zdb (ze7 _) rfl (lb := #[At0 V.heap.size]) rfl rfl hI (UR _) (fun k hk=>⟨?_,rfl⟩) (fun pre vs W ⟨l,q,c,_,h,_⟩=>by rw [h];rfl) (by decide)
  (fun k=>k=M\/k=L+2\/k=L+3)
  (fun pre F Z=>(∃ xs,(xs.map (·.1)=pre/\pre.length<=m/\AscB xs)/\Gath jf 62 93 (L+4) W.heap.size M W (ztP (L+4)) xs F Z)/\F (L+2)/\F (L+3))
  (fun ex pre F Z=>ex = .ret/\m<(zbq r).length/\Z.heap[L+2]?=some (.cells #[.slice none 0 0] 93 (0,0))/\Z.heap[L+3]?=some (.cells #[i64 5] 56 (0,0))/\Bw w Z/\W.heap.size<=Z.heap.size/\F (L+2)/\F (L+3)/\∀ k,F k->k<Z.heap.size)
  (fun k hk=>?_) ⟨?_,?_⟩ (fun ex=>⟨?_,?_⟩) ?_ ?_ ?_ ?_
 ·rcases hk with (rfl | rfl) | h
  ·omega
  ·have:=hwW.size;omega
  ·exact h.elim
 ·rcases hk with rfl | rfl <;> omega
 ·rintro pre F A C ⟨h,h2,h3⟩ hs;exact⟨(Gath.iter (σ:=List (List Nat)) (f:=fun pre xs=>xs.map (·.1)=pre/\pre.length<=m/\AscB xs) (zfl (L+4)) (by omega)).step pre F A C h hs,h2,h3⟩
 ·rintro pre F A k ⟨h,_⟩ hk;exact (Gath.iter (σ:=List (List Nat)) (f:=fun pre xs=>xs.map (·.1)=pre/\pre.length<=m/\AscB xs) (zfl (L+4)) (by omega)).lt pre F A k h hk
 ·rintro pre F A C ⟨h1,h2,h3,h4,h5,h6,h7,h8,h9⟩ hs;exact⟨h1,h2,(hs.same _ (hlt h3) (.inr h7)).trans h3,(hs.same _ (hlt h4) (.inr h8)).trans h4,h5.trans ⟨hs.os,hs.tape,hs.output,hs.size,fun k hk=>hs.same k (nL hk h5.size) (.inl ⟨by omega,fun h=>h⟩)⟩,UI h6 hs.size,h7,h8,fun k hk=>nL (h9 k hk) hs.size⟩
 ·rintro pre F A k ⟨h1,h2,h3,h4,h5,h6,h7,h8,h9⟩ hk;exact⟨h9 k hk,fun h=>h⟩
 ·refine⟨⟨zt8,⟨rfl,UU _,List.Pairwise.nil⟩,⟨UR _,.inl rfl,fun k hk=>?_,⟨none,0,fM,OwnS.nil,fun a h=>by cases h⟩,fun x hx=>(by cases hx),UW _ _⟩⟩,.inr (.inl rfl),.inr (.inr rfl)⟩;rcases hk with rfl | rfl | rfl <;> omega
 ·rintro yl pre x vs F Y hyl hpre hJ ⟨l,q,c,hlast,rfl,hsl,hqc,hcel⟩ hfy ⟨lo,hlo⟩;have hxR:x=l:=by simpa using hlast
  subst hxR;refine⟨rfl,F,KeepsG.refl _ _,hJ,?_⟩;rintro o Y2 hY2 ⟨⟨xs,⟨hxs,hpm,hasc⟩,hG⟩,hF2,hF3⟩;have hpl:pre.length<(zbq r).length:=by
   obtain⟨t,ht⟩:=hpre;rw [<- ht];simp only [lap,Qp];omega
  have hxl:xs.length=pre.length:=by rw [<- hxs,QI]
  have hmem:x∈zbq r:=hpre.subset (by simp);have hlen:=zmW hmem;have hslY:SlR zC Y2 q x:=by
   rw [hY2];refine je hsl fun a ha=>zj fun e=>?_;obtain⟨cur,hcur⟩:=hcel a ha;rw [e,hlo] at hcur
   cases hcur
  obtain⟨p,c',h4,h5,h6⟩:=hG.row;have hWL:L+4<=W.heap.size:=by omega
  have g1:Y2.heap[L+1]?=some (.cells #[i64 m] 3 (0,0)):=(hG.old.block _ (by omega)).trans f1;refine⟨_,zc (za h4) (i:=0) rfl,_,zc (za g1) (i:=0) rfl,biE (fun hc=>?_) fun hc=>?_⟩
  ·have hc:((xs.length:Nat):Int)=(m:Int):=dT hc;have g2:Y2.heap[L+2]?=some (.cells #[.slice none 0 0] 93 (0,0)):=(hG.old.block _ (by omega)).trans f2;have g3:Y2.heap[L+3]?=some (.cells #[i64 0] 56 (0,0)):=(hG.old.block _ (by omega)).trans f3;refine zm k93 g2 (o:=0) (v := .slice none 0 0) rfl rfl (by show 0<1;decide) rfl fun Z1 fZ1 gZ1 sZ1=>zm k56 ((gZ1.block (L+3) (hlt g3) (by simp)).trans g3) (o:=0) (v:=i64 5) rfl rfl (by show 0<1;decide) rfl fun Z2 fZ2 gZ2 sZ2=>⟨F,⟨rfl,by omega,(gZ2.block (L+2) (hlt fZ1) (by simp)).trans fZ1,fZ2,?_,by have:=hG.size;omega,hF2,hF3,fun k hk=>by have:=hG.lt k hk;omega⟩,(KeepsG.grown gZ1 hF2).trans (KeepsG.grown gZ2 hF3)⟩;have hwY:=hwW.trans (hG.old.mono (by omega));exact (hwY.trans (zk gZ1 hwY.size (by omega))).trans (zk gZ2 (by have:=hwY.size;omega) (by omega))
  ·have hc:¬ ((xs.length:Nat):Int)=(m:Int):=dF hc;refine DrawE.ord [4,5] [0,1,2,3,4,5] (by kernel_rfl) ?_;have hd2:Bw Y2 Y2.drew:=(UW _ _).drew;refine⟨_,zc (za (hdr h4)) (i:=0) rfl,cmo (zqJ (hslY.below hd2) (by omega) hqc) ?_⟩;rintro e Y3 ⟨⟨q1,k1,rfl,o1⟩,hb3⟩;refine⟨hb3,?_⟩;obtain⟨nx,hnx⟩:∃ nx:List Nat×OA×Nat,nx=(x,q1,k1):=⟨_,rfl⟩;have hen:[Value.slice q1 x.length k1]=jf.enc nx:=by rw [hnx];rfl
   refine⟨⟨by decide,by decide,rfl⟩,jf.enc nx,by rw [<- hen];rfl,?_⟩;have hba:Bw Y3 (Y3.alloc (.cells (jf.enc nx).toArray 62)):=zba _ _;refine⟨hba,?_⟩;have hnw:∀ (G:Nat->Prop) (Z:Wd),(∀ k,Y2.heap.size<=k->k<Y3.heap.size->Z.heap[k]?=Y3.heap[k]?)->(∀ k,Y2.heap.size<=k->k<Y3.heap.size->G k)->ztP (L+4) G Z nx:=by
    intro G Z hs hg;rw [hnx];have ol:∀ a,q1=some a->Y2.heap.size<=a.block/\a.block<Y3.heap.size:=fun a ha=>⟨(zx o1 ha).1,(zx o1 ha).2.1⟩;have hY2s:=hG.size;exact⟨OwnS.lower (o1.same fun a ha=>hs _ (ol a ha).1 (ol a ha).2) (by show L+4<=Y2.heap.size;omega),fun a ha=>hg _ (ol a ha).1 (ol a ha).2⟩
   obtain⟨v,Y5,hrun,Z,hrun2,F',hG',hK',hFF⟩:=hG.step (P:=PG) (ty:=93) (cap1:=1) (zfl (L+4)) (by decide) Tryz.underlying93 k62 rfl rfl rfl k93 rfl (by omega) (by omega) (hd2.trans hb3) nx (by omega) (by show (xs.length+1)*24<=_;omega) hnw p c' h4;exact SatR.mk hrun (SatR.mk hrun2 ⟨F',⟨⟨_,⟨by rw [QL,hxs,hnx];rfl,by simp only [lap,Qp,QJ];omega,hasc.snoc (n:=Y2.heap.size) (fun x' hx' a ha=>(zx (hG.nest x' hx').1 ha).2.1) (fun a ha=>by rw [hnx] at ha;exact (zx o1 ha).1)⟩,hG'⟩,hFF _ hF2,hFF _ hF3⟩,hK'⟩)
 ·rintro D F Y hD hfD ⟨⟨xs,⟨hxs,hpm,hasc⟩,hG⟩,hF2,hF3⟩ hdef;obtain⟨p,c',h4,h5,h6⟩:=hG.row;have hWL:L+4<=W.heap.size:=by omega
  have g2:Y.heap[L+2]?=some (.cells #[.slice none 0 0] 93 (0,0)):=(hG.old.block _ (by omega)).trans f2;have g3:Y.heap[L+3]?=some (.cells #[i64 0] 56 (0,0)):=(hG.old.block _ (by omega)).trans f3;refine⟨_,zc (za h4) (i:=0) rfl,zm k93 g2 (o:=0) (v := .slice p xs.length c') rfl rfl (by show 0<1;decide) rfl fun Z1 fZ1 gZ1 sZ1=>zm k56 ((gZ1.block (L+3) (hlt g3) (by simp)).trans g3) (o:=0) (v:=i64 0) rfl rfl (by show 0<1;decide) rfl fun Z2 fZ2 gZ2 sZ2=>?_⟩;have k2:∀ k,k<Y.heap.size->k≠L+2->k≠L+3->Z2.heap[k]?=Y.heap[k]?:=fun k hk n1 n2=>(gZ2.block k (by rw [sZ1];exact hk) (by simpa using n2)).trans (gZ1.block k hk (by simpa using n1));refine⟨_,rfl,(k2 D (hlt hdef) (by omega) (by omega)).trans hdef,?_⟩;have f2':=(gZ2.block (L+2) (hlt fZ1) (by simp)).trans fZ1;have nD2:D≠L+2:=fun e=>hfD (e▸hF2);have nD3:D≠L+3:=fun e=>hfD (e▸hF3);have hwY:=hwW.trans (hG.old.mono (by omega));have b2:=(hwY.trans (zk gZ1 hwY.size (by omega))).trans (zk gZ2 (by have:=hwY.size;omega) (by omega));have kp:∀ a:Addr,L+4<=a.block->F a.block->a.block<Y.heap.size->(Z2.putObj D (.deferred none)).heap[a.block]?=Y.heap[a.block]?:=fun a h1 h2 h3=>(zj fun e=>by rw [<- e] at hfD;exact hfD h2).trans (k2 _ h3 (by omega) (by omega));refine⟨.slice p xs.length c',zc (za ((zj fun e=>nD2 e.symm).trans f2')) (i:=0) rfl,i64 0,zc (za ((zj fun e=>nD3 e.symm).trans fZ2)) (i:=0) rfl,.inl ⟨by rw [<- hxs,QI] at hpm ⊢;exact hpm,xs,p,c',rfl,hxs,hasc,?_,fun x hx=>?_⟩,q8 b2 (by omega) _⟩
  ·exact OwnS.lower (h5.same fun a ha=>kp a (zx h5 ha).1 (h6 a ha) (zx h5 ha).2.1) (by omega)
  ·obtain⟨hx1,hx2⟩:=hG.nest x hx;exact OwnS.lower (hx1.same fun a ha=>kp a (zx hx1 ha).1 (hx2 a ha) (zx hx1 ha).2.1) (by omega)
 ·rintro D ex pre F Y hD hfD hpre ⟨rfl,hm2,h3,h4,h5,h6,h7,h8,h9⟩ hdef;refine⟨_,rfl,hdef,?_⟩;have nD2:D≠L+2:=fun e=>hfD (e▸h7);have nD3:D≠L+3:=fun e=>hfD (e▸h8);exact⟨_,zc (za ((zj fun e=>nD2 e.symm).trans h3)) (i:=0) rfl,_,zc (za ((zj fun e=>nD3 e.symm).trans h4)) (i:=0) rfl,.inr ⟨hm2,rfl⟩,q8 h5 (by have:=hwW.size;omega) _⟩
theorem zqG {p:OA} {cap:Nat} {l:List Nat} {s:Nat} {w:Wd} (hl:SlR zC w p l) (hn:l.length<=140737488351232) :
  Calls PG 151 #[.slice p l.length cap,i64 s] w fun e w'=>∃ n:Int,e = .returned (i64 n)/\decide (0<=n)=l.any (fun q=>decide (q=s))/\w=w':=by
 refine zF 19 [.slice p l.length cap,i64 s] Tryz.func151 ?_;refine⟨Nat,fun k=>⟨[(0,.slice p l.length cap),(1,i64 s),(7,i64 l.length),(8,i64 (k:Nat))],[]⟩,fun k X=>k<=l.length/\(∀ q∈l.take k,¬ q=s)/\w=X,fun k=>l.length-k,0,(cvE rfl rfl),⟨UU _,by simp,rfl⟩,?_⟩;rintro k _ ⟨hk,hno,rfl⟩;dsimp only at hk hno ⊢;refine biE (fun hc=>?_) fun hc=>?_
 ·have hc:(k:Int)<(l.length:Int):=dT hc;have hkl:k<l.length:=by omega
  obtain⟨b,o,rfl,hb,hat⟩:=hl.at hkl;refine⟨k,rfl,hkl,i64 l[k],zc (hat k hkl) (i:=0) rfl,biE (fun h=>?_) fun h=>?_⟩
  ·have h:(s:Int)=(l[k]:Nat):=dT h;refine⟨k,rfl,?_,rfl⟩;rw [Un (by omega)];symm;rw [Qh];exact⟨l[k],gM _,Un (by omega)⟩
  ·have h:¬ (s:Int)=(l[k]:Nat):=dF h;refine⟨(k+1:Nat),(ze (by omega)).trans (by omega),k+1,(cvE rfl rfl),⟨hkl,?_,rfl⟩,zdc (by omega)⟩;rw [tsg hkl];intro q hq;rcases QM.1 hq with hq | hq
   ·exact hno q hq
   ·simp only [Ky] at hq;rw [hq];exact fun e=>h (by rw [e])
 ·have hc:¬ (k:Int)<(l.length:Int):=dF hc;obtain rfl:k=l.length:=by omega
  rw [Qt] at hno;refine⟨-1,rfl,?_,rfl⟩;symm;show _=false;rw [KK];exact fun q hq=>by simpa using hno q hq
theorem zli {p:OA} {cap:Nat} {l:List Nat} {s:Nat} {w:Wd} (hl:SlR zC w p l) (hn:l.length<=140737488351232) :
  Calls PG 107 #[.slice p l.length cap,i64 s] w fun e w'=>e = .returned (.bool (l.any fun q=>decide (q=s)))/\w=w':=by
 refine zF 9 [.slice p l.length cap,i64 s] Tryz.func107 ?_;refine cmo (zqG hl hn) ?_;rintro e _ ⟨n,rfl,h,rfl⟩;exact⟨rb h,rfl⟩
abbrev zi2 (l:List Nat):List Value:=l.map fun n:Nat=>i64 n
abbrev RowI (Z:Wd) (g:Nat) (l:List Nat):Prop:=Z.heap[g]?=some (.cells (zi2 l).toArray 3 (0,0))
theorem zeH:∀ l:List Nat,l.flatMap zC.enc=zi2 l
 | []=>rfl
 | a::l=>by
  show i64 a::l.flatMap zC.enc=i64 a::zi2 l;rw [zeH l]
theorem zjG:∀ n,zb9 [Value.int IntKind.i64 0] n=zi2 (List.replicate n 0)
 | 0=>rfl
 | n+1=>by
  show Value.int IntKind.i64 0::zb9 [Value.int IntKind.i64 0] n=i64 0::zi2 (List.replicate n 0);rw [<- zjG n];rfl
theorem RowI.sl {Z:Wd} {g:Nat} {l:List Nat} (h:RowI Z g l):SlR zC Z (some ⟨g,0,none⟩) l :=
 SlR.of_cells (hlt h) (by rw [zeH];exact za h)
theorem zn2 {α:Type} {f:Nat->α} {n j:Nat} (h:j<n):((List.range j).map f++[f j]) <+: (List.range n).map f:=by
 obtain⟨m,rfl⟩:∃ m,n=(j+1)+m:=⟨n-(j+1),by omega⟩;rw [List.range_add,QL];exact⟨_,by rw [QR,QL];rfl⟩
def StD (pre:List (List Nat)) (vs:List Value) (W:Wd):Prop:=∃ l q,pre.getLast?=some l/\vs=[.slice q l.length l.length]/\SlR zC W q l/\∀ a,q=some a->∃ cur,W.heap[a.block]?=some (.cells cur 3 (0,0))
section
variable {bx:Nat} {sizes:List Nat} {q:OA} {c:Nat} {W0:Wd}
theorem zsw (fx:W0.heap[bx]?=some (.cells #[.slice q sizes.length c] 62 (0,0))) (hl:SlR zC W0 q sizes) (hql:∀ a,q=some a->a.block<W0.heap.size) (hn:sizes.length<=1000) (hm:∀ n∈sizes,n<=1000000) :
  ziJ PG 106 [At0 bx] (qa sizes) W0 (fun k=>k=bx\/∃ a,q=some a/\k=a.block) (fun _=>False) StD:=by
 intro yl F0 J Jx W hsz hrd hrf hJ hJx hy h0;have fxW:=(hrd bx (.inl (.inl rfl))).trans fx;have hlW:SlR zC W q sizes:=je hl fun a ha=>hrd _ (.inl (.inr ⟨a,ha,rfl⟩));refine zF 43 [.func (.yield yl) #[] #[],At0 bx] Tryz.func106 ?_;refine⟨_,zc (za fxW) (i:=0) rfl,cmo (zli (s:=0) hlW (by omega)) ?_⟩;rintro e _ ⟨rfl,rfl⟩;refine biE (fun h=>?_) fun h=>?_
 ·have h:(sizes.any fun q=>decide (q=0))=true:=h;obtain⟨z,hz,hz0⟩:=Qh.1 h;have hz0:z=0:=dT hz0;subst hz0;have hs:qa sizes=[]:=by unfold qa;rw [zea (by simpa using hz)];rfl
  rw [hs];exact⟨⟨_,rfl⟩,.inl ⟨F0,h0⟩⟩
 have h:(sizes.any fun q=>decide (q=0))=false:=h;obtain⟨rs,hrs⟩:=nm (sizes.reverse);have hr0:∀ n∈rs,n≠0:=fun n hn e=>by
  rw [KK] at h;exact h n (by rw [hrs] at hn;simpa using hn) (Un e)
 have hlen:rs.length=sizes.length:=by rw [hrs,Kh]
 refine⟨_,zc (za fxW) (i:=0) rfl,ziq Tryz.underlying62 k3 rfl rfl (by decide) sizes.length (by show 8*_<=_;omega) (by omega) fun X fX hbX sX=>?_⟩;rw [zjG] at fX;obtain⟨D,hD⟩:∃ D:Nat->List Nat,D=fun j=>(zau rs j).reverse:=⟨_,rfl⟩;have hDl:∀ j,(D j).length=sizes.length:=fun j=>by rw [hD];show ((zau rs j).reverse).length=_;rw [Kh,zeW,hlen]
 have hds:qa sizes=(List.range (z6 rs)).map D:=by unfold qa;rw [hD,hrs]
 have hP:0<z6 rs:=zie hr0;have hD0:D 0=List.replicate sizes.length 0:=by
  rw [hD];show (zau rs 0).reverse=_;rw [ziB,List.reverse_replicate,hlen]
 rw [<- hD0] at fX;rw [hds] at hy ⊢;obtain⟨g,hg⟩:=nm (W.heap.size);rw [<- hg] at fX;have hbxW:=hlt fxW;refine⟨Nat×(Nat->Prop),fun s=>⟨[(0,.func (.yield yl) #[] #[]),(1,At0 bx),(3,.slice (some ⟨g,0,none⟩) sizes.length sizes.length)],[]⟩,
  fun s Z=>s.1<z6 rs/\J ((List.range s.1).map D) s.2 Z/\RowI Z g (D s.1)/\¬ s.2 g/\W.heap.size<=Z.heap.size/\Z.heap[bx]?=some (.cells #[.slice q sizes.length c] 62 (0,0))/\¬ s.2 bx/\RowF zC W.heap.size s.2 Z q sizes,
  fun s=>z6 rs-s.1,(0,F0),⟨.cons rfl (.cons rfl (.cons (by rw [hg];rfl) .nil)),rfl⟩,
  ⟨hP,hJ.step _ _ _ _ h0 (.below hbX),fX,fun h=>by have:=(hJ.lt _ _ _ _ h0 h).1;omega,hbX.size,zb hbX fxW,hrf _ (.inl rfl),⟨hlW.below hbX,fun a ha=>⟨by have:=hql a ha;omega,hrf _ (.inr ⟨a,ha,rfl⟩)⟩⟩⟩,?_⟩
 rintro⟨j,F⟩ Z ⟨hj,hjZ,fZ,hgF,hWZ,fxZ,hbF,hqZ⟩;dsimp only at hj hjZ fZ hgF fxZ hbF hqZ ⊢;have hpre:((List.range j).map D++[D j]) <+: (List.range (z6 rs)).map D:=zn2 hj;refine YieldR.mono (hy _ (D j) [.slice (some ⟨g,0,none⟩) sizes.length sizes.length] F Z hjZ ⟨D j,_,by simp,by rw [hDl j],fZ.sl,fun a ha=>(by cases ha;exact⟨_,fZ⟩)⟩ hpre) ?_;rintro v Y (⟨rfl,F',hjY,kY⟩ | ⟨rfl,F',hjY⟩)
 ·refine brT ?_;have hgZ:=hlt fZ;have fY:RowI Y g (D j):=(kY.same g hgZ hgF).trans fZ;have hgF':¬ F' g:=fun h=>by
   rcases kY.fp g h with h | h
   ·exact hgF h
   ·omega
  have fxY:=(kY.same bx (hlt fxZ) hbF).trans fxZ;have hbF':¬ F' bx:=fun h=>by
   rcases kY.fp bx h with h | h
   ·exact hbF h
   ·have:=hlt fxZ;omega
  have hqY:=hqZ.keep hWZ kY (fun _ _ h=>h);have hWY:=UI hWZ kY.size;have hjY2:J ((List.range (j+1)).map D) F' Y:=by
   rw [QR,QL];exact hjY
  clear hjY hpre fZ fxZ hqZ hjZ hWZ hgZ hgF hbF kY;refine⟨((sizes.length:Nat):Int)-1,ze (by omega),?_⟩;have hgn:W.heap.size<=g:=by omega
  have hbg:bx≠g:=by omega
  refine⟨Nat,fun t=>⟨[(0,.func (.yield yl) #[] #[]),(1,At0 bx),(3,.slice (some ⟨g,0,none⟩) sizes.length sizes.length),(4,i64 (((sizes.length:Nat):Int)-1-(t:Nat)))],[]⟩,
   fun t V=>t<=sizes.length/\zhJ rs j t/\RowI V g ((List.replicate t 0++(zau rs j).drop t).reverse)/\J ((List.range (j+1)).map D) F' V/\W.heap.size<=V.heap.size/\V.heap[bx]?=some (.cells #[.slice q sizes.length c] 62 (0,0))/\RowF zC W.heap.size F' V q sizes,fun t=>sizes.length-t,0,
   ⟨.cons rfl (.cons rfl (.cons rfl (.cons (by rw [Int.ofNat_zero,Int.sub_zero];rfl) .nil))),rfl⟩,⟨UU _,zmf _ _,by rw [hD] at fY;exact fY,hjY2,hWY,fxY,hqY⟩,?_⟩
  clear fY fxY hqY hjY2 hWY;rintro t V ⟨ht,hc,fV,hjV,hWV,fxV,hqV⟩;dsimp only at ht hc fV hjV ⊢;have hLl:(zau rs j).length=sizes.length:=by rw [zeW,hlen]
  refine DrawE.ord [] [0,1,2,3,4,5,6,7,8,9,10,11,12,13] (by kernel_rfl) (biE (fun hi=>?_) fun hi=>?_)
  ·have hi:(0:Int)<=((sizes.length:Nat):Int)-1-(t:Nat):=dT hi;have htl:t<sizes.length:=by omega
   obtain⟨i,hit⟩:∃ i,i+t+1=sizes.length:=⟨sizes.length-1-t,by omega⟩;have hii:((sizes.length:Nat):Int)-1-(t:Nat)=(i:Nat):=by omega
   rw [hii];obtain⟨d,hd⟩:∃ d,(zau rs j)[t]?=some d:=⟨_,gE (by omega)⟩;obtain⟨n,hn⟩:∃ n,rs[t]?=some n:=⟨_,gE (by omega)⟩;have hil:i<sizes.length:=by omega
   have hsn:sizes[i]=n:=by
    have:=JK (l:=sizes) (i:=t) htl;rw [<- hrs,hn,show sizes.length-1-t=i by omega,gE hil] at this;exact (Ua this).symm
   have hnm:n∈sizes:=by rw [<- hsn];exact gM hil
   have hn1:=hm n hnm;have hn0:n≠0:=hr0 n (by rw [hrs];simpa using hnm);have zc3:=zsV hd (i:=i) (by omega);have hdn:d<n:=by
    obtain⟨A,ns,k,c1,c2,c3,c4,c5⟩:=hc
    cases ns with
    | nil=>rw [c1,QF,JJ (by omega)] at hn;cases hn
    | cons m ns =>
     have hm':m=n:=by
      rw [c1,Jm (by omega),c2,UK] at hn;exact Ua hn
     have:=Gd (fun l=>l[0]?) c4;simp only [Ku,UH] at this;rw [hd] at this;have:d=k%m:=Ua this;rw [this,hm'];exact UZ _ (by omega)
   have hrl:((List.replicate t 0++(zau rs j).drop t).reverse).length=sizes.length:=by simp;omega
   refine⟨i,rfl,hil,?_⟩;have hrc:(zi2 (List.replicate t 0++(zau rs j).drop t).reverse)[i*1]?=some (i64 d):=by
    rw [US,KR,zc3];rfl
   refine⟨i64 d,zc (za (hdr fV)) hrc,_,zc (za (hdr fxV)) (i:=0) rfl,?_⟩;obtain⟨bq,oq,hqe,hlq,hatq⟩:=hqV.row.at hil;subst hqe;refine⟨i,rfl,hil,i64 n,by rw [<- hsn];exact zc (zr (UW _ V).drew (hatq i hil)) (i:=0) rfl,((n:Nat):Int)-1,ze (by omega),biE (fun he=>?_) fun he=>?_⟩
   ·have he:(d:Int)=(n:Int)-1:=dT he;have hrs2:=zmG hd (i:=i) (by omega) 0;refine⟨i,rfl,hil,zm k3 (hdr fV) (o:=0+i*1) (v:=i64 0) rfl rfl (by rw [QI,hrl];omega) rfl fun V1 fV1 gV1 sV1=>⟨((sizes.length:Nat):Int)-1-((t+1:Nat):Int),(ze (by omega)).trans (by omega),?_⟩⟩;have gV2:V.grownBy V1 (some g):=zd (zi (UW _ V).drew) gV1;have kV:KeepsG (fun k=>k=g) (fun _=>False) V V1:=⟨gV2.os,gV2.tape,gV2.output,gV2.size,fun k hk hf=>gV2.block k hk (fun e=>hf (by cases e;rfl)),fun k h=>h.elim⟩;have hsV:=gV2.size;refine⟨t+1,(cvE rfl rfl),⟨htl,zmh hr0 hc hn hd (by omega),?_,hJ.step _ _ _ _ hjV (StepG.grown gV2 (.inl hgn) hgF'),by omega,(gV2.block bx (hlt fxV) (by simpa using hbg)).trans fxV,⟨je hqV.row fun a ha=>gV2.block _ (by have:=(hqV.out a ha).1;omega) (by have:=(hqV.out a ha).1;simp;omega),hqV.out⟩⟩,zdc (by omega)⟩;show RowI V1 g _;rw [<- zph,<- hrs2];rw [US,UM] at fV1;refine fV1.trans ?_;unfold zi2;rw [UE];rfl
   ·have he:¬ (d:Int)=(n:Int)-1:=dF he;have hstop:=zmg hr0 hc hn hd (by omega);have hmore:=zmi hr0 hc hn hd (by omega) hj;have hrs2:=zmG hd (i:=i) (by omega) (d+1);refine brN (Uc (by omega)) ⟨i,rfl,hil,i64 d,zc (za (hdr fV)) hrc,nxI (by omega) ⟨i,rfl,hil,zm k3 (hdr fV) (o:=0+i*1) (v:=i64 ((d+1:Nat):Int)) rfl rfl (by rw [QI,hrl];omega) rfl fun V1 fV1 gV1 sV1=>?_⟩⟩;have gV2:V.grownBy V1 (some g):=zd (zi (UW _ V).drew) gV1;have hsV:=gV2.size;refine⟨(j+1,F'),(cvE rfl rfl),⟨hmore,hJ.step _ _ _ _ hjV (StepG.grown gV2 (.inl hgn) hgF'),?_,hgF',by omega,(gV2.block bx (hlt fxV) (by simpa using hbg)).trans fxV,hbF',⟨je hqV.row fun a ha=>gV2.block _ (by have:=(hqV.out a ha).1;omega) (by have:=(hqV.out a ha).1;simp;omega),hqV.out⟩⟩,zdc (by omega)⟩;show RowI V1 g (D (j+1));rw [hD];show RowI V1 g (zau rs (j+1)).reverse;rw [hstop,<- hrs2];rw [US,UM] at fV1;refine fV1.trans ?_;unfold zi2;rw [UE]
  ·have hi:¬ (0:Int)<=((sizes.length:Nat):Int)-1-(t:Nat):=dF hi;have hte:t=rs.length:=by omega
   rw [hte] at hc;have he:=zow hc hj;refine brF (brE (Un (by omega)) ?_);rw [he] at hjV;exact⟨⟨_,rfl⟩,.inl ⟨F',hJ.step _ _ _ _ hjV (.below (UW _ V).drew)⟩⟩
 ·exact brF ⟨⟨_,rfl⟩,.inr ⟨_,F',hpre,hjY⟩⟩
end
def poG (ev:List Ev) (k:Nat):Nat->Nat:=fun i=>if i<k then zbw ev i else 0
theorem zmQ (ev:List Ev) (k:Nat):upd (poG ev k) k (zbw ev k)=poG ev (k+1):=by
 funext i;unfold upd poG;by_cases h:i=k
 ·rw [Gi h,Gi (by omega),h]
 ·rw [Gh h];by_cases h2:i<k
  ·rw [Gi h2,Gi (by omega)]
  ·rw [Gh h2,Gh (by omega)]
theorem zkj (ev:List Ev) (k:Nat):upd (poG ev k) k 0=poG ev k:=by
 funext i;unfold upd poG;by_cases h:i=k
 ·rw [Gi h,Gh (by omega)]
 ·rw [Gh h]
theorem zra (ev:List Ev):poG ev ev.length=zbw ev:=by
 funext i;unfold poG
 split
 ·rfl
 ·unfold zbw;rw [JJ (by omega)]
section
variable {p:OA} {cap:Nat} {ev:List Ev} {w:Wd}
theorem zdd (hl:SlR evE w p ev) (hn:ev.length<=48):CB 43 #[.slice p ev.length cap] w (.agg (zf (poR ev)).toArray):=by
 refine qk 47 [.slice p ev.length cap] (.s .p (.c .p .p)) Tryz.func43 ?_;obtain⟨L,hL⟩:=nm (w.heap.size);have hbL:=zy w (.cells (zf zB).toArray 39 (0,0));have hbb:Bw w (w.alloc (.cells (zf zB).toArray 39 (0,0))):=zba w _;have hbs:=wz w (.cells (zf zB).toArray 39 (0,0));refine⟨Unit,fun _=>⟨[(0,.slice p ev.length cap),(2,At0 L),(3,At0 (L+1))],[]⟩,fun _ X=>zY X L zB/\zY X (L+1) ⟨ev.length,fun _=>0⟩/\X.heap.size=L+2/\Bw w X,?_,?_⟩
 ·refine⟨zf ⟨ev.length,fun _=>0⟩,rfl,zo (X:=w.alloc (.cells (zf zB).toArray 39 (0,0))) (v := .agg (zf ⟨ev.length,fun _=>0⟩).toArray) k39 (zg _) rfl (zE _) fun V hbV fV sV=>?_⟩;rw [hbs] at fV sV;exact⟨(),⟨.cons rfl (.cons (by rw [hL];rfl) (.cons (by rw [hL,<- hbs];rfl) .nil)),rfl⟩,by rw [hL];exact zb hbV hbL,by rw [hL];exact fV,by rw [hL];exact sV,(zst hbb hbV)⟩
 rintro _ X ⟨f0,f1,sX,hbX⟩;refine⟨Nat,fun k=>⟨[(0,.slice p ev.length cap),(2,At0 L),(3,At0 (L+1)),(10,.slice p ev.length cap),(11,i64 ev.length),(12,i64 (k:Nat))],[]⟩,
  fun k V=>k<=ev.length/\zY V (L+1) ⟨ev.length,poG ev k⟩/\zY V L zB/\L+1<V.heap.size/\Bw w V,fun k=>ev.length-k,0,
  (cvE rfl rfl),⟨UU _,f1,f0,by omega,hbX⟩,?_⟩
 rintro k V ⟨hk,fV,f0V,sV,hbV⟩;dsimp only at hk fV ⊢;refine biE (fun hc=>?_) fun hc=>?_
 ·have hc:(k:Int)<(ev.length:Int):=dT hc;have hkl:k<ev.length:=by omega
  obtain⟨e,he⟩:∃ e,ev[k]=e:=⟨_,rfl⟩;have hek:ev[k]?=some e:=by rw [<- he];exact gE hkl
  obtain⟨bp,op,rfl,hlp,hat⟩:=hl.at hkl;refine⟨k,rfl,hkl,evE.enc e,rfl,by rw [<- he];exact zr hbV (hat k hkl),nL hlp hbV.size,zo (X:=V) (v := .agg (evE.enc e).toArray) k49 rfl rfl (Qg.2 fun u hu=>evE.one e u hu) fun Y hbY fY sY=>?_⟩;obtain⟨b,hb⟩:=nm (V.heap.size);rw [<- hb] at fY;have eb:some (Value.pointer (some ⟨V.heap.size,0,none⟩))=some (At0 b):=by rw [hb]
  have hwY:=zst hbV hbY;have hMb:L+1<b:=by omega
  have fYM:=zb hbY fV;have fYL:=zb hbY f0V;refine⟨i64 e.th,by rw [<- hb];exact zc (za fY) (i:=0) rfl,biE (fun h=>?_) fun h=>?_⟩
  ·have h:e.th = -1:=dT h;have hr:zbw ev k=0:=by
    unfold zbw;rw [hek];exact Gi h
   refine nxI (by omega) ⟨k+1,(cvE rfl rfl),⟨hkl,?_,fYL,by omega,hwY⟩,zdc (by omega)⟩;rw [<- zmQ,hr,zkj];exact fYM
  have h:¬ e.th = -1:=dF h;have hr:zbw ev k=zgI e.th (k+1) (ev.drop (k+1)) 0:=by
   unfold zbw;rw [hek];exact Gh h
  refine nxI (by omega) ?_;refine⟨Nat×Nat,fun s=>⟨[(0,.slice (some ⟨bp,op,none⟩) ev.length cap),(2,At0 L),(3,At0 (L+1)),(4,i64 (k:Nat)),(5,At0 b),(6,i64 (s.1:Nat)),(10,.slice (some ⟨bp,op,none⟩) ev.length cap),(11,i64 ev.length),(12,i64 (k:Nat))],[]⟩,
   fun s Z=>s.1<=ev.length/\zbw ev k=zgI e.th s.1 (ev.drop s.1) s.2/\s.2<2^64/\zY Z (L+1) ⟨ev.length,upd (poG ev k) k s.2⟩/\zY Z L zB/\Z.heap[b]?=some (.cells (evE.enc e).toArray 49 (0,0))/\Bw w Z,fun s=>ev.length-s.1,(k+1,0),
   ⟨.cons rfl (.cons rfl (.cons rfl (.cons rfl (.cons eb (.cons rfl (.cons rfl (.cons rfl (.cons rfl .nil)))))))),rfl⟩,⟨hkl,hr,(by decide:0<2^64),by rw [zkj];exact fYM,fYL,fY,hwY⟩,?_⟩
  clear fY fYM fYL hwY hbY sY f0V fV hbV sV;rintro⟨j,s⟩ Z ⟨hj,hacc,hs,fM,fL,fb,hbZ⟩;dsimp only at hj hacc hs fM ⊢;refine biE (fun hc=>?_) fun hc=>?_
  ·have hc:(j:Int)<(ev.length:Int):=dT hc;have hjl:j<ev.length:=by omega
   have hdrop:ev.drop j=ev[j]::ev.drop (j+1):=(JE hjl).symm;rw [hdrop] at hacc;have hacc:zbw ev k=zgI e.th (j+1) (ev.drop (j+1)) (if ev[j].th=e.th then s|||2^j else s):=hacc;refine DrawE.ord [] [0,1,2,3,4,5,6,7] (by kernel_rfl) ⟨j,rfl,hjl,i64 ev[j].th,zc (zr hbZ (hat j hjl)) (i:=0) rfl,i64 e.th,zc (za (hdr fb)) (i:=0) rfl,?_⟩;have hslot:(zf ⟨(ev.length:Int),upd (poG ev k) k s⟩)[1+k]?=some (s64 s):=by
    have:=zeA ⟨(ev.length:Int),upd (poG ev k) k s⟩ (i:=k) (by omega);rw [this];show some (s64 (upd (poG ev k) k s k))=_;rw [zQ]
   have hdZ:Bw Z Z.drew:=(UW _ Z).drew;refine biE (fun he=>?_) fun he=>?_
   ·have he:ev[j].th=e.th:=dT he;rw [Gi he] at hacc;refine DrawE.ord [9] [0,1,2,3,4,5,6,7,8,9] (by kernel_rfl) ⟨k,rfl,by omega,?_⟩;refine⟨s64 s,by rw [US,Uz];exact zc (za (hdr (hdr fM))) hslot,by omega,_,jX (e:=j) (by omega),_,zaf hs (zZ (by omega)),k,rfl,by omega,?_⟩;refine zm k36 (hdr (hdr fM)) (o:=0+1+k*1) (v:=s64 (s|||2^j)) rfl rfl (by rw [zg];omega) rfl fun S fS gS sS=>?_;rw [UM,US,zez _ (show k<48 by omega)] at fS;have gS2:Z.grownBy S (some (L+1)):=zd (zi (UW _ Z).drew) (zd (zi (UW _ _).drew) gS);refine nxI (by omega) ⟨(j+1,s|||2^j),(cvE rfl rfl),⟨hjl,hacc,KV hs (zZ (by omega)),?_,(gS2.block L (hlt fL) (by simp)).trans fL,(gS2.block b (hlt fb) (by simp;omega)).trans fb,hbZ.trans (zk gS2 hbZ.size (by omega))⟩,zdc (by omega)⟩;have:upd (upd (poG ev k) k s) k (s|||2^j)=upd (poG ev k) k (s|||2^j):=by
     funext i;unfold upd
     split <;> rfl
    rw [this] at fS;exact fS
   ·have he:¬ ev[j].th=e.th:=dF he;rw [Gh he] at hacc;exact nxI (by omega) ⟨(j+1,s),(cvE rfl rfl),⟨hjl,hacc,hs,fM,fL,fb,(zst hbZ hdZ)⟩,zdc (by omega)⟩
  ·have hc:¬ (j:Int)<(ev.length:Int):=dF hc;have:j=ev.length:=by omega
   subst this;rw [Qj] at hacc;have hacc:zbw ev k=s:=hacc;refine nxI (by omega) ⟨k+1,(cvE rfl rfl),⟨hkl,?_,fL,hlt fM,hbZ⟩,zdc (by omega)⟩;rw [<- zmQ,hacc];exact fM
 ·have hc:¬ (k:Int)<(ev.length:Int):=dF hc;obtain rfl:k=ev.length:=by omega
  rw [zra] at fV;exact⟨zf (poR ev),zg _,za fV,hlt fV,zt (v := .agg (zf (poR ev)).toArray) k39 f0V rfl rfl (zE _) ⟨zf (poR ev),zg _,za (zn f0V),rfl,zl hbV (by omega) _⟩⟩
end
def za4:UInt8->List UInt8->List UInt8
 | _,[]=>[]
 | p,y::r=>if y=p then za4 p r else y::za4 y r
def ded:List UInt8->List UInt8
 | []=>[]
 | x::r=>x::za4 x r
theorem zfw:∀ (A:List UInt8) (p x:UInt8),za4 p (A++[x])=if x=(p::A).getLast (by simp) then za4 p A else za4 p A++[x]
 | [],p,x=>by
  show (if x=p then [] else [x])=_;rfl
 | y::A,p,x=>by
  show (if y=p then za4 p (A++[x]) else y::za4 y (A++[x]))=_;have hl:(p::y::A).getLast (by simp)=(y::A).getLast (by simp):=List.getLast_cons (by simp);rw [hl];show _=if x=(y::A).getLast _ then (if y=p then za4 p A else y::za4 y A) else (if y=p then za4 p A else y::za4 y A)++[x]
  by_cases h:y=p
  ·subst h;rw [Gi rfl,Gi rfl,zfw A y x]
  ·rw [Gh h,Gh h,zfw A y x]
   split <;> rfl
theorem zqb {A:List UInt8} (h:A≠[]) (x:UInt8):ded (A++[x])=if x=A.getLast h then ded A else ded A++[x]:=by
 cases A with
 | nil=>exact Gj rfl h
 | cons y A =>
  show y::za4 y (A++[x])=_;rw [zfw];show _=if x=(y::A).getLast h then y::za4 y A else y::za4 y A++[x]
  split <;> rfl
theorem zkV {l:List UInt8} {i:Nat} (h0:0<i) (hi:i<l.length):ded (l.take (i+1))=if l[i]=l[i-1] then ded (l.take i) else ded (l.take i)++[l[i]]:=by
 rw [tsg hi];have hne:l.take i≠[]:=by
  intro e;have:=Gd List.length e;rw [Qr,QJ] at this;omega
 rw [zqb hne];have:(l.take i).getLast hne=l[i-1]:=by
  have hlen:(l.take i).length-1=i-1:=by rw [Qr];omega
  simp only [List.getLast_eq_getElem,List.getElem_take,hlen]
 rw [this]
section
variable {B g cap:Nat} {l:List UInt8} {w:Wd}
theorem zdt {X:Wd} {sp:List Value} {M:List UInt8} (h:RowS zR 5 X g sp M) {i:Nat} (hi:i<M.length):X.cell? ⟨g,0+i*1,none⟩=some (u8 M[i]):=by
 have:=zc (h.at hi) (i:=0) (v:=u8 M[i]) rfl;exact this
theorem zk8 {M:List UInt8} {i:Nat} {x:UInt8} (h:M[i]?=some x):∃ hi:i<M.length,M[i]=x:=by
 obtain⟨hi,e⟩:=Jr.1 h;exact⟨hi,e⟩
theorem zmq (ho:OwnS zR 5 B w (some ⟨g,0,none⟩) cap l) (hn:l.length<=1000000) :
  Calls PG 102 #[.slice (some ⟨g,0,none⟩) l.length cap] w fun e w'=>e = .returned (.slice (some ⟨g,0,none⟩) (ded l).length cap)/\OwnS zR 5 B w' (some ⟨g,0,none⟩) cap (ded l)/\w.grownBy w' (some g):=by
 refine zF 61 [.slice (some ⟨g,0,none⟩) l.length cap] Tryz.func102 ?_;rcases ho.inv with ⟨h,_⟩ | ⟨g',cur,hg,hB,hcur,hlc,hcm,hcs,hct⟩
 ·cases h
 simp only [KW,Up,Gc] at hg;subst hg;have hcs:cur.size=cap:=by rw [hcs];exact US _
 obtain⟨sp,hsp⟩:=nm (cur.toList.drop l.length);have hct:cur.toList.take l.length=l.flatMap zR.enc:=by rw [<- hct];congr 1;exact (US _).symm
 have hR:RowS zR 5 w g sp l:=by
  unfold RowS;rw [hcur,<- hct,hsp,JP]
 have hspl:l.length+sp.length=cap:=by
  have h1:cur.toList.length=cap:=by rw [Array.length_toList];exact hcs
  rw [hsp,Qq,h1];omega
 refine biE (fun h=>?_) fun h=>?_
 ·have h:(l.length:Int)<2:=dT h;have e:ded l=l:=by
   match l,h with
   | [],_=>rfl
   | [x],_=>rfl
   | x::y::r,h=>simp at h;omega
  rw [e];exact⟨rfl,ho,qg w _⟩
 have h:¬ (l.length:Int)<2:=dF h;have hl2:2<=l.length:=by omega
 refine⟨Nat,fun k=>⟨[(0,.slice (some ⟨g,0,none⟩) l.length cap),(3,i64 (k:Nat))],[]⟩,fun k X=>1<=k/\k<=l.length/\ded (l.take k)=l.take k/\RowS zR 5 X g sp l/\w.grownBy X (some g),fun k=>l.length-k,1,
  (cvE rfl rfl),⟨UR _,by omega,by
   cases l with
   | nil=>rfl
   | cons x r=>rfl,hR,qg w _⟩,?_⟩
 rintro k X ⟨hk1,hkl,hdk,hRX,gX⟩;refine biE (fun hc=>?_) fun hc=>?_
 ·have hc:(k:Int)<(l.length:Int):=dT hc;have hk:k<l.length:=by omega
  refine DrawE.ord [] [0,1,2,3,4,5,6,7,8,9] (by kernel_rfl) ?_;have hRd:RowS zR 5 X.drew g sp l:=hRX;have gd:w.grownBy X.drew (some g):=zd gX ⟨rfl,rfl,rfl,UR _,fun _ _ _=>rfl⟩;refine⟨k,rfl,hk,_,zdt hRd hk,((k-1:Nat):Int),(ze (by omega)).trans (by omega),k-1,rfl,by omega,?_⟩;refine⟨_,zdt hRd (by omega),?_⟩;have hnx:=zkV (l:=l) hk1 hk;refine biE (fun he=>?_) fun he=>?_
  ·have he:l[k]=l[k-1]:=qq.1 (dT he);rw [Gi he] at hnx;refine⟨k,rfl,by show k<=l.length;omega,?_⟩;have hcb:ji (some ⟨g,0,none⟩) cap k 1=some ⟨g,k,none⟩:=by
    unfold ji;rw [Gh (by omega)];show some ((⟨g,0,none⟩:Addr).add (k*1))=_;rw [zbn,US,UM]
   refine⟨Nat×Nat×List UInt8,fun s=>⟨[(0,.slice (some ⟨g,0,none⟩) l.length cap),(3,i64 (s.2.1:Nat)),(4,.slice (some ⟨g,k,none⟩) (l.length-k) (cap-k)),(5,i64 (s.1:Nat))],[]⟩,
    fun s Y=>(1<=s.1/\k+s.1<=l.length)/\(s.2.1=(ded (l.take (k+s.1))).length/\s.2.1+1<=k+s.1)/\(s.2.2.length=l.length/\s.2.2.take s.2.1=ded (l.take (k+s.1))/\∀ j,s.2.1<=j->s.2.2[j]?=l[j]?)/\RowS zR 5 Y g sp s.2.2/\w.grownBy Y (some g),fun s=>l.length-s.1,(1,k,l),
    ⟨.cons rfl (.cons rfl (.cons (by rw [<- hcb];rfl) (.cons rfl .nil))),rfl⟩,⟨⟨UR _,by show k+1<=_;omega⟩,⟨by show k=_;rw [hnx,hdk,Qr];omega,UR _⟩,⟨rfl,by show l.take k=_;rw [hnx,hdk],fun j _=>rfl⟩,hRd,gd⟩,?_⟩
   rintro⟨m,q,M⟩ Y ⟨⟨hm1,hml⟩,⟨hq,hqm⟩,⟨hM,hMt,hMj⟩,hRY,gY⟩;dsimp only at hm1 hml hq hqm hM hMt hMj hRY ⊢;refine biE (fun hc=>?_) fun hc=>?_
   ·have hc:(m:Int)<((l.length-k:Nat):Int):=dT hc;have hi:k+m<l.length:=(by omega);have g1:M[k+m]?=some l[k+m]:=(by rw [hMj _ (by omega),gE hi]);have g0:M[k+m-1]?=some l[k+m-1]:=(by rw [hMj _ (by omega),gE (by omega)]);obtain⟨i1,e1⟩:=zk8 g1;obtain⟨i0,e0⟩:=zk8 g0;have nx:=zkV (l:=l) (i:=k+m) (by omega) hi;refine DrawE.ord [] [0,1,2,3,4,5,6,7,8,9] (by kernel_rfl) ?_;have hRYd:RowS zR 5 Y.drew g sp M:=hRY;have gYd:w.grownBy Y.drew (some g):=zd gY ⟨rfl,rfl,rfl,UR _,fun _ _ _=>rfl⟩;have a1:Y.drew.cell? ⟨g,k+m*1,none⟩=some (u8 l[k+m]):=by
     have:=zdt hRYd i1;rw [e1,US,UM] at this;rw [US];exact this
    have a0:Y.drew.cell? ⟨g,k+(m-1)*1,none⟩=some (u8 l[k+m-1]):=by
     have:=zdt hRYd i0;rw [e0,US,UM] at this;rw [US,<- Nat.add_sub_assoc hm1];exact this
    refine⟨m,rfl,by omega,?_⟩;refine⟨_,a1,((m-1:Nat):Int),(ze (by omega)).trans (by omega),m-1,rfl,by omega,?_⟩;refine⟨_,a0,biE (fun hne=>?_) fun hne=>?_⟩
    ·have hne:¬ l[k+m]=l[k+m-1]:=fun e=>by
      have hne:(!decide (((l[k+m]).toNat:Int)=((l[k+m-1]).toNat:Int)))=true:=hne;rw [e,Un rfl] at hne;cases hne
     rw [Gh hne] at nx;refine⟨m,rfl,by omega,?_⟩;refine⟨_,a1,q,rfl,by omega,?_⟩;refine zh5 k5 rfl hRYd (i:=q) (by omega) l[k+m] fun Z hRZ gZ sZ=>nxI (by omega) (nxI (by omega) ⟨(m+1,q+1,M.set q l[k+m]),(cvE rfl rfl),⟨⟨by omega,by show k+(m+1)<=_;omega⟩,⟨?_,by show q+1+1<=k+(m+1);omega⟩,⟨by rw [QK];exact hM,?_,fun j hj=>?_⟩,hRZ,zd gYd gZ⟩,zdc (by omega)⟩)
     ·show q+1=(ded (l.take (k+(m+1)))).length;rw [<- Uz,nx,lap,<- hq];rfl
     ·show (M.set q l[k+m]).take (q+1)=ded (l.take (k+(m+1)));rw [<- Uz,nx,<- hMt];rw [tsg (by rw [QK];omega),List.take_set_of_le (UR _),List.getElem_set_self]
     ·show (M.set q l[k+m])[j]?=l[j]?;have hj:q+1<=j:=hj;rw [JU (by omega)];exact hMj j (by omega)
    ·have heq:l[k+m]=l[k+m-1]:=by
      have hne:(!decide (((l[k+m]).toNat:Int)=((l[k+m-1]).toNat:Int)))=false:=hne;have h2:decide (((l[k+m]).toNat:Int)=((l[k+m-1]).toNat:Int))=true:=(by simpa using hne);exact qq.1 (dT h2)
     rw [Gi heq] at nx;exact nxI (by omega) ⟨(m+1,q,M),(cvE rfl rfl),⟨⟨by omega,by show k+(m+1)<=_;omega⟩,⟨by show q=(ded (l.take (k+(m+1)))).length;rw [<- Uz,nx];exact hq,by show q+1<=k+(m+1);omega⟩,⟨hM,by show M.take q=ded (l.take (k+(m+1)));rw [<- Uz,nx];exact hMt,hMj⟩,hRYd,gYd⟩,zdc (by omega)⟩
   ·have hc:¬ (m:Int)<((l.length-k:Nat):Int):=dF hc;have hkm:k+m=l.length:=(by omega);rw [hkm,Qt] at hq hMt;refine⟨q,rfl,by show q<=l.length;omega,?_⟩;have hcb2:ji (some ⟨g,0,none⟩) cap q 1=some ⟨g,q,none⟩:=by
     unfold ji;rw [Gh (by omega)];show some ((⟨g,0,none⟩:Addr).add (q*1))=_;rw [zbn,US,UM]
    have hfl:(M.flatMap zR.enc++sp).length=cap:=by
     rw [lap,qu,hM];show l.length*1+_=_;omega
    have hcl:SatR ((Builtin.clear_ #[23] 0 #[.slice (some ⟨g,q,none⟩) (l.length-q) (cap-q)]).run PG Y) fun _ Z=>Z.heap[g]?=some (.cells ((M.flatMap zR.enc++sp).take q++List.replicate (l.length-q) (u8 0)++(M.flatMap zR.enc++sp).drop (q+(l.length-q))).toArray 5 (0,0))/\Y.grownBy Z (some g) :=
     zot Tryz.underlying23 k5 rfl rfl (by omega) hRY (by show q+(l.length-q)<=(M.flatMap zR.enc++sp).length;rw [hfl];omega) fun Z fZ gZ sZ=>⟨fZ,gZ⟩
    obtain⟨v,Z,hrun,fZ,gZ⟩:=hcl;refine⟨v,Z,by rw [hcb2];exact hrun,?_⟩;refine⟨q,rfl,by show q<=cap;omega,?_⟩;rw [<- hq];refine⟨by show Ending.returned (Value.slice (ji (some ⟨g,0,none⟩) cap 0 1) (q-0) (cap-0))=_;rw [zcS];rfl,?_,zd gY gZ⟩;unfold OwnS World.ownsRow;refine⟨by rw [qu],.inr ⟨g,cap,_,rfl,hB,fZ,by omega,hcm,?_,?_⟩⟩
    ·show (List.length _)=cap*1;rw [lap,lap,Qr,JM,Qq,hfl];omega
    ·rw [<- hq];show ((M.flatMap zR.enc++sp).take q++List.replicate (l.length-q) (u8 0)++(M.flatMap zR.enc++sp).drop (q+(l.length-q))).take (q*1)=_;rw [US,KL,Jf (by rw [Qr,hfl];omega),List.take_take,Nat.min_self,Jf (by rw [qu,hM];show q<=l.length*1;omega),<- hMt];have:=JP q M;have e2:M.flatMap zR.enc=(M.take q).flatMap zR.enc++(M.drop q).flatMap zR.enc:=(by rw [<- Ke,JP]);rw [e2,QS (by rw [qu,Qr];show min q M.length*1=q;omega)]
  ·have he:¬ l[k]=l[k-1]:=fun e=>(dF he) (by rw [e]);rw [Gh he,hdk] at hnx;exact nxI (by omega) ⟨k+1,(cvE rfl rfl),⟨by omega,hk,by rw [hnx,tsg hk],hRd,gd⟩,zdc (by omega)⟩
 ·have hc:¬ (k:Int)<(l.length:Int):=dF hc;obtain rfl:k=l.length:=by omega
  rw [Qt] at hdk;rw [hdk];refine⟨rfl,?_,gX⟩;unfold OwnS World.ownsRow;refine⟨by rw [qu],.inr ⟨g,cap,_,rfl,hB,hRX,by omega,hcm,?_,?_⟩⟩
  ·show (l.flatMap zR.enc++sp).length=cap*1;rw [lap,qu];show l.length*1+_=_;omega
  ·exact QS (qu l)
end
end Go.Proofs.YtkpaomeeknegpaaGreatDoor
