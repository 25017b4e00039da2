/- Contracts of functions, and plain facts, for the law that the last text of this claim proves. -/
import Derived.Test.YtnadlhpkpnfmbaaGreatDoorA2
import Derived.Test.YtnadlhpkpnfmbaaGreatDoorA1
import Derived.Laws.StructEq
import Derived.ChangeKeysEq
set_option linter.unusedSimpArgs false
set_option linter.unusedVariables false
namespace Go.Proofs.YtnadlhpkpnfmbaaGreatDoor
open Go.Vc Go.RowKit Go.Sei
theorem zdg {n : Nat} {f : Nat → Value} (h : ∀ i, (f i).oneCell' = true) : (seg n f).all Value.oneCell' = true := by
  unfold seg
  rw [Je]
  intro u hu
  obtain ⟨i, _, rfl⟩ := JR.1 hu
  exact h i
theorem zlE : (znX).toArray.size = 259 := by kernel_rfl
theorem zop (R : RunD) : (runC R).all Value.oneCell' = true := by
  unfold runC
  rw [List.all_cons, List.all_append, List.all_append, List.all_append, List.all_append, List.all_append, List.all_append, zdg fun _ => rfl, zdg fun _ => rfl, zdg fun _ => rfl, zdg fun _ => rfl, zdg fun _ => rfl]
  have : (evsC R.ev).all Value.oneCell' = true := Je.2 fun u hu => zh1 (E := evE) _ u hu
  rw [this]; rfl
theorem zbf {α : Type} {E : Enc α} {w X : World} {q : Option Addr} {l : List α} (h : SlR E w q l) (hs : ∀ a, q = some a → X.heap[a.block]? = w.heap[a.block]?) : SlR E X q l := by
  rcases h with h | ⟨b', o, h1, h2, h3⟩
  · exact .inl h
  · have h4 := hs _ h1
    have h4 : X.heap[b']? = w.heap[b']? := h4
    refine .inr ⟨b', o, h1, ?_, fun i hi => zaB h4 (h3 i hi)⟩
    have h5 : w.heap[b']? = some w.heap[b'] := Array.getElem?_eq_getElem h2
    rw [h5] at h4
    exact hlt h4
structure RowF {α : Type} (E : Enc α) (n0 : Nat) (F : Nat → Prop) (X : World) (q : Option Addr) (l : List α) : Prop where
  row : SlR E X q l
  out : ∀ a, q = some a → a.block < n0 ∧ ¬ F a.block
theorem RowF.keep {α : Type} {E : Enc α} {n0 : Nat} {F F' G : Nat → Prop} {X Y : World} {q : Option Addr} {l : List α} (h : RowF E n0 F X q l) (hn : n0 ≤ X.heap.size) (k : KeepsG G F' X Y) (hG : ∀ k, k < n0 → G k → F k) : RowF E n0 F' Y q l := by
  refine ⟨zbf h.row fun a ha => ?_, fun a ha => ⟨(h.out a ha).1, fun hf => ?_⟩⟩
  · have := h.out a ha
    exact k.same _ (by omega) fun hg => this.2 (hG _ this.1 hg)
  · have := h.out a ha
    rcases k.fp _ hf with h2 | h2
    · exact this.2 (hG _ this.1 h2)
    · omega
def StR (pre : List RunD) (vs : List Value) (W : World) : Prop := ∃ R b, pre.getLast? = some R ∧ vs = [AtR b] ∧ RunH W b R
section
variable {yl n0 cap cd : Nat} {J Jx : List RunD → (Nat → Prop) → World → Prop} {xs : List RunD} {l : List InsD} {dom : List UInt8} {q p : Option Addr}
theorem zoe (hJ : JG n0 (fun _ => False) J) (hn0 : ∀ pre F X, J pre F X → n0 ≤ X.heap.size) (hy : ∀ pre x vs F W1, J pre F W1 → StR (pre ++ [x]) vs W1 → (pre ++ [x]) <+: xs → YieldR Tryz.prog yl vs.toArray W1 fun v W2 =>
      (v = .bool true ∧ ∃ F', J (pre ++ [x]) F' W2 ∧ KeepsG F F' W1 W2) ∨ (v = .bool false ∧ ∃ F', Jx (pre ++ [x]) F' W2)) (h12 : l.length ≤ 12) (hx : ∀ x ∈ l, ExOk x) (hd : dom.length ≤ 1000) :
    ∀ (n : Nat) (S : RunD) (b : Nat) (pre : List RunD) (F : Nat → Prop) (X : World), l.length ≤ n + S.pc → S.many ≤ S.pc → S.pc ≤ l.length → RunH X b S → n0 ≤ b → ¬ F b → J pre F X → RowF insE n0 F X q l → RowF zaI n0 F X p dom → (pre ++ zaN l dom n S) <+: xs →
      Calls Tryz.prog 229 #[AtR b, .slice q l.length cap, .slice p dom.length cd, .func (.yield yl) #[] #[]] X fun e Y =>
        (e = .returned (.bool true) ∧ ∃ F', J (pre ++ zaN l dom n S) F' Y ∧ KeepsG (fun k => F k ∨ k = b) F' X Y) ∨ (e = .returned (.bool false) ∧ ∃ pre' F', pre' <+: xs ∧ Jx pre' F' Y) := by
  intro n
  induction n with
  | zero =>
    intro S b pre F X hn hm hp fX hb hFb hj hq hdm hpre
    refine za4 (S := sg 41) (sgOk _) (args := [AtR b, .slice q l.length cap, .slice p dom.length cd, .func (.yield yl) #[] #[]]) Tryz.func229 rfl rfl (JO rfl) rfl ?_
    have hpc : S.pc = l.length := by omega
    have hg : l[S.pc]? = none := Jo (by omega)
    have e1 : goR l l.length S = S := zpE hg _
    refine Calls.mono (ziz fX hq.row (fun a ha => by have := (hq.out a ha).1; omega) h12 hx hm hp) ?_
    rintro e Y ⟨rfl, fY, gY, _⟩
    rw [e1] at fY ⊢
    rw [hg]
    refine brT ?_
    have hjY := hJ.step _ _ _ _ hj (StepG.grown gY (.inl hb) hFb)
    have hs : zaN l dom 0 S = [S] := by show [goR l l.length S] = _; rw [e1]
    rw [hs] at hpre ⊢
    refine YieldR.mono (hy pre S [AtR b] F Y hjY ⟨S, b, by simp, rfl, fY⟩ hpre) ?_
    rintro v Z (⟨rfl, F', hJZ, hKZ⟩ | ⟨rfl, F', hJZ⟩)
    · exact .inl ⟨rfl, F', hJZ, (KeepsG.grown (F := fun k => F k ∨ k = b) gY (.inr rfl)).trans (hKZ.weak fun k h => .inl h)⟩
    · exact .inr ⟨rfl, _, F', hpre, hJZ⟩
  | succ n ih =>
    intro S b pre F X hn hm hp fX hb hFb hj hq hdm hpre
    refine za4 (S := sg 41) (sgOk _) (args := [AtR b, .slice q l.length cap, .slice p dom.length cd, .func (.yield yl) #[] #[]]) Tryz.func229 rfl rfl (JO rfl) rfl ?_
    obtain ⟨T, hT⟩ : ∃ T, T = goR l l.length S := ⟨_, rfl⟩
    refine Calls.mono (ziz fX hq.row (fun a ha => by have := (hq.out a ha).1; omega) h12 hx hm hp) ?_
    rintro e Y ⟨rfl, fY, gY, tm, tp, tpp⟩
    rw [← hT] at fY tm tp tpp ⊢
    have hjY := hJ.step _ _ _ _ hj (StepG.grown gY (.inl hb) hFb)
    have hXn := hn0 _ _ _ hj
    have kY : KeepsG (fun k => F k ∨ k = b) F X Y := ⟨gY.os, gY.tape, gY.output, gY.size, fun k hk hf => gY.block k hk (fun e => hf (.inr (by cases e; rfl))), fun k h => .inl (.inl h)⟩
    have hqY := hq.keep hXn kY (fun k hk h => h.resolve_right (by omega))
    have hdY := hdm.keep hXn kY (fun k hk h => h.resolve_right (by omega))
    cases hg : l[T.pc]? with
    | none =>
      refine brT ?_
      have hs : zaN l dom (n + 1) S = [T] := by
        show (match l[(goR l l.length S).pc]? with | none => [goR l l.length S] | some x => _) = _
        rw [← hT, hg]
      rw [hs] at hpre ⊢
      refine YieldR.mono (hy pre T [AtR b] F Y hjY ⟨T, b, by simp, rfl, fY⟩ hpre) ?_
      rintro v Z (⟨rfl, F', hJZ, hKZ⟩ | ⟨rfl, F', hJZ⟩)
      · exact .inl ⟨rfl, F', hJZ, kY.trans hKZ⟩
      · exact .inr ⟨rfl, _, F', hpre, hJZ⟩
    | some x =>
      have hi : T.pc < l.length := (Ju.1 hg).1
      have hxe : l[T.pc] = x := by rw [List.getElem?_eq_getElem hi] at hg; exact Jg hg
      have hxi : ExOk x := by rw [← hxe]; exact hx _ (List.getElem_mem hi)
      refine brF ?_
      have hs : zaN l dom (n + 1) S = dom.flatMap fun v => zaN l dom n (zbl T x v) := by
        show (match l[(goR l l.length S).pc]? with | none => [goR l l.length S] | some x => _) = _
        rw [← hT, hg]
      rw [hs] at hpre ⊢
      refine ⟨Nat × (Nat → Prop), fun s => ⟨[(0, AtR b), (1, .slice q l.length cap), (2, .slice p dom.length cd), (3, .func (.yield yl) #[] #[]), (19, .slice p dom.length cd), (20, i64 dom.length), (21, i64 (s.1 : Nat))], []⟩,
        fun s Z => s.1 ≤ dom.length ∧ J (pre ++ (dom.take s.1).flatMap fun v => zaN l dom n (zbl T x v)) s.2 Z ∧ RunH Z b T ∧ ¬ s.2 b ∧ RowF insE n0 s.2 Z q l ∧ RowF zaI n0 s.2 Z p dom ∧ KeepsG (fun k => F k ∨ k = b) s.2 X Z, fun s => dom.length - s.1, (0, F),
        ⟨.cons rfl (.cons rfl (.cons rfl (.cons rfl (.cons rfl (.cons rfl (.cons rfl .nil)))))), rfl⟩, ⟨Jh _, by rw [List.take_zero]; show J (pre ++ []) F Y; rw [Jk]; exact hjY, fY, hFb, hqY, hdY, kY⟩, ?_⟩
      clear fY gY hjY hqY hdY kY
      rintro ⟨k, G⟩ Z ⟨hk, hjZ, fZ, hGb, hqZ, hdZ, kZ⟩
      dsimp only at hk hjZ hGb hqZ hdZ kZ ⊢
      have hZn := hn0 _ _ _ hjZ
      refine Jn (fun hc => ?_) (fun hc => ?_)
      · have hc : (k : Int) < (dom.length : Int) := of_decide_eq_true hc
        have hkd : k < dom.length := by omega
        obtain ⟨bp, op, hpe, hlp, hatp⟩ := hdZ.row.at hkd
        have hqr := hqZ
        obtain ⟨bq, oq, hqe, hlq, hatq⟩ := hqZ.row.at hi
        have ep : some (Value.slice p dom.length cd) = some (Value.slice (some ⟨bp, op, none⟩) dom.length cd) := by rw [hpe]
        subst hpe
        refine ⟨k, rfl, hkd, ?_⟩
        refine ⟨u8 dom[k], by have := zac (hatp k hkd) (i := 0) (v := u8 dom[k]) rfl; exact this, ?_⟩
        refine ⟨runC T, zcu _, zaa fZ, hlt fZ, ?_⟩
        refine zak (X := Z) (v := .agg (runC T).toArray) (ttOk.get 291 _ rfl) (zcu _) zlE (zop _) fun V hbV fV sV => ?_
        subst hqe
        have fV : RunH V Z.heap.size T := fV
        refine ⟨_, zac (zaa fV) (i := 0) rfl, ?_⟩
        refine ⟨T.pc, rfl, hi, ?_⟩
        refine ⟨insE.enc x, rfl, by rw [← hxe]; exact zar hbV (hatq T.pc hi), Nat.lt_of_lt_of_le hlq hbV.size, ?_⟩
        refine Calls.mono (zi1 (v := dom[k]) fV (by omega) (by omega) hxi) ?_
        rintro e U ⟨rfl, fU, gU⟩
        obtain ⟨x1, x2⟩ := zjJ (R := T) (v := dom[k]) hxi
        have hGn : ¬ G Z.heap.size := fun h => by have := (hJ.lt _ _ _ _ hjZ h).1; omega
        have hjU := hJ.step _ _ _ _ (hJ.step _ _ _ _ hjZ (StepG.below hbV)) (StepG.grown gU (.inl hZn) hGn)
        have hbU : Below Z.heap.size Z U := hbV.trans (zan gU hbV.size (Jb _))
        have kU : KeepsG G G Z U := KeepsG.below hbU fun k h => .inl h
        have hqU := hqr.keep hZn kU (fun k _ h => h)
        have hdU := hdZ.keep hZn kU (fun k _ h => h)
        have hdk : dom.flatMap (fun v => zaN l dom n (zbl T x v)) = (dom.take k).flatMap (fun v => zaN l dom n (zbl T x v)) ++ (zaN l dom n (zbl T x dom[k]) ++ (dom.drop (k + 1)).flatMap fun v => zaN l dom n (zbl T x v)) := by
          have e : dom = dom.take k ++ dom[k] :: dom.drop (k + 1) := by rw [JE, List.take_append_drop]
          have e2 : (dom.take k ++ dom[k] :: dom.drop (k + 1)).flatMap (fun v => zaN l dom n (zbl T x v)) = (dom.take k).flatMap (fun v => zaN l dom n (zbl T x v)) ++ (zaN l dom n (zbl T x dom[k]) ++ (dom.drop (k + 1)).flatMap fun v => zaN l dom n (zbl T x v)) := by
            rw [List.flatMap_append, Kj]
          rw [← e] at e2
          exact e2
        have hpk : ((pre ++ (dom.take k).flatMap fun v => zaN l dom n (zbl T x v)) ++ zaN l dom n (zbl T x dom[k])) <+: xs := by
          refine List.IsPrefix.trans ?_ hpre
          rw [hdk]
          exact ⟨(dom.drop (k + 1)).flatMap fun v => zaN l dom n (zbl T x v), by simp only [Jr]⟩
        have htk : (dom.take (k + 1)).flatMap (fun v => zaN l dom n (zbl T x v)) = (dom.take k).flatMap (fun v => zaN l dom n (zbl T x v)) ++ zaN l dom n (zbl T x dom[k]) := by
          rw [List.take_succ_eq_append_getElem hkd, List.flatMap_append, Kj, Kk, Jk]
        refine Calls.mono (ih (zbl T x dom[k]) Z.heap.size (pre ++ (dom.take k).flatMap fun v => zaN l dom n (zbl T x v)) G U (by rw [x1]; omega) (by rw [x1, x2]; omega) (by rw [x1]; omega) fU hZn hGn hjU hqU hdU hpk) ?_
        rintro e V' (⟨rfl, F', hjV, kV⟩ | ⟨rfl, pre', F', hp', hjx⟩)
        · refine brF ?_
          have kW : KeepsG G F' Z V' := ⟨kV.os.trans kU.os, kV.tape.trans kU.tape, kV.output.trans kU.output, Jj kU.size kV.size, fun i hi hf => (kV.same i (Nat.lt_of_lt_of_le hi kU.size) (fun h => by
            rcases h with h | h
            · exact hf h
            · omega)).trans (kU.same i hi hf), fun i h => by
            have := kU.size
            rcases kV.fp i h with (h2 | h2) | h2
            · exact .inl h2
            · exact .inr (by omega)
            · exact .inr (by omega)⟩
          have hbZ := hlt fZ
          refine ⟨((k + 1 : Nat) : Int), (zaj (by omega)).trans (by omega), ?_⟩
          refine ⟨(k + 1, F'), ⟨.cons rfl (.cons rfl (.cons rfl (.cons rfl (.cons rfl (.cons rfl (.cons rfl .nil)))))), rfl⟩, ⟨hkd, ?_, (kW.same b hbZ hGb).trans fZ, fun h => ?_, hqr.keep hZn kW (fun _ _ h => h), hdZ.keep hZn kW (fun _ _ h => h), kZ.trans kW⟩, by show dom.length - (k + 1) < dom.length - k; omega⟩
          · show J (pre ++ (dom.take (k + 1)).flatMap fun v => zaN l dom n (zbl T x v)) F' V'
            rw [htk, ← Jr]
            exact hjV
          · rcases kW.fp b h with h2 | h2
            · exact hGb h2
            · omega
        · refine brT ?_
          exact .inr ⟨rfl, pre', F', hp', hjx⟩
      · have hc : ¬ (k : Int) < (dom.length : Int) := of_decide_eq_false hc
        obtain rfl : k = dom.length := by omega
        rw [JF] at hjZ
        exact .inl ⟨rfl, G, hjZ, kZ⟩
theorem zne {bi bd : Nat} {W0 : World} (hl : SlR insE W0 q l) (hp : SlR zaI W0 p dom) (fi : W0.heap[bi]? = some (.cells #[.slice q l.length cap] 97 (0, 0))) (fd : W0.heap[bd]? = some (.cells #[.slice p dom.length cd] 72 (0, 0))) (hql : ∀ a, q = some a → a.block < W0.heap.size) (hpl : ∀ a, p = some a → a.block < W0.heap.size) (h12 : l.length ≤ 12) (hx : ∀ x ∈ l, ExOk x) (hd : dom.length ≤ 1000) :
    zly Tryz.prog 228 [AtR bi, AtR bd] (zcJ l dom) W0 (fun k => (k = bi ∨ k = bd) ∨ (∃ a, q = some a ∧ k = a.block) ∨ ∃ a, p = some a ∧ k = a.block) (fun _ => False) StR := by
  intro yl F0 J Jx W hsz hrd hrf hJ hJx hy h0
  refine za4 (S := sg 9) (sgOk _) (args := [.func (.yield yl) #[] #[], AtR bi, AtR bd]) Tryz.func228 rfl rfl (JO rfl) rfl ?_
  obtain ⟨X, hX⟩ : ∃ X, X = W.alloc (.cells (runC run0).toArray 291) := ⟨_, rfl⟩
  have hbX : Below W.heap.size W X := by rw [hX]; exact (Ja _ W).alloc (Jb _) _
  have fX : RunH X W.heap.size run0 := by rw [hX]; exact hnew W _
  have ez : znX = runC run0 := by kernel_rfl
  have hX' : W.alloc (.cells (znX).toArray 291) = X := by rw [hX, ez]
  have fiW := (hrd bi (.inl (.inl (.inl rfl)))).trans fi
  have fdW := (hrd bd (.inl (.inl (.inr rfl)))).trans fd
  have hjX := hJ.step _ _ _ _ h0 (StepG.below hbX)
  have hF : ¬ F0 W.heap.size := fun h => by have := (hJ.lt _ _ _ _ h0 h).1; omega
  have hlX : RowF insE W.heap.size F0 X q l := ⟨zbf hl fun a ha => (hbX.block _ (by have := hql a ha; omega)).trans (hrd _ (.inl (.inr (.inl ⟨a, ha, rfl⟩)))), fun a ha => ⟨by have := hql a ha; omega, hrf _ (.inr (.inl ⟨a, ha, rfl⟩))⟩⟩
  have hpX : RowF zaI W.heap.size F0 X p dom := ⟨zbf hp fun a ha => (hbX.block _ (by have := hpl a ha; omega)).trans (hrd _ (.inl (.inr (.inr ⟨a, ha, rfl⟩)))), fun a ha => ⟨by have := hpl a ha; omega, hrf _ (.inr (.inr ⟨a, ha, rfl⟩))⟩⟩
  refine ⟨_, by rw [hX']; exact zac (zaa (zab hbX fiW)) (i := 0) rfl, ?_⟩
  refine ⟨_, by rw [hX']; exact zac (zaa (zab hbX fdW)) (i := 0) rfl, ?_⟩
  rw [hX']
  have hJn : JG W.heap.size (fun _ => False) (fun pre F Z => J pre F Z ∧ W.heap.size ≤ Z.heap.size) := ⟨fun s F A B ⟨h, hn⟩ hs => ⟨hJ.step _ _ _ _ h hs, Jj hn hs.size⟩, fun s F A k ⟨h, _⟩ hk => hJ.lt _ _ _ _ h hk⟩
  refine Calls.mono (zoe (xs := zcJ l dom) (Jx := Jx) hJn (fun _ _ _ h => h.2) (fun pre x vs F W1 ⟨hj, hn⟩ hst hpre => YieldR.mono (hy pre x vs F W1 hj hst hpre) fun v W2 h => ?_) h12 hx hd l.length run0 W.heap.size [] F0 X (Jb _) (Jb _) (Jh _) fX (Jb _) hF ⟨hjX, hbX.size⟩ hlX hpX (List.prefix_refl _)) ?_
  · rcases h with ⟨rfl, F', h1, h2⟩ | h
    · exact .inl ⟨rfl, F', ⟨h1, Jj hn h2.size⟩, h2⟩
    · exact .inr h
  · rintro e Y (⟨rfl, F', ⟨hj, _⟩, _⟩ | ⟨rfl, pre', F', h1, h2⟩)
    · exact ⟨⟨_, rfl⟩, .inl ⟨F', hj⟩⟩
    · exact ⟨⟨_, rfl⟩, .inr ⟨pre', F', h1, h2⟩⟩
theorem zjL {w : World} : Calls Tryz.prog 195 #[.slice q l.length cap, .slice p dom.length cd] w fun e w' => e = .returned (.func (.func 228) #[] #[AtR w.heap.size, AtR (w.heap.size + 1)]) ∧ w'.heap[w.heap.size]? = some (.cells #[.slice q l.length cap] 97 (0, 0)) ∧ w'.heap[w.heap.size + 1]? = some (.cells #[.slice p dom.length cd] 72 (0, 0)) ∧ w'.heap.size = w.heap.size + 2 ∧ Below w.heap.size w w' := by
  refine za4 (S := sg 6) (sgOk _) (args := [.slice q l.length cap, .slice p dom.length cd]) Tryz.func195 rfl rfl (JO rfl) rfl ?_
  have s1 := World.size_alloc w (.cells #[.slice q l.length cap] 97)
  have h2 := hnew (w.alloc (.cells #[.slice q l.length cap] 97)) (.cells #[.slice p dom.length cd] 72)
  have s2 := World.size_alloc (w.alloc (.cells #[.slice q l.length cap] 97)) (.cells #[.slice p dom.length cd] 72)
  rw [s1] at h2 s2
  refine ⟨?_, hold _ (hnew w _), h2, s2, ((Ja _ w).alloc (Jb _) _).alloc (by simp) _⟩
  rw [← s1]; rfl
end
theorem zsC {P:Program} {t e:TypeId} (hu:P.underlying t=some (.slice e)) (d:Nat) (a:Option Addr) (n c:Nat) (w:World):(Op.equalIn (d+1) t (.slice a n c) (.slice none 0 0)).run P w = .ok a.isNone w:=by
 cases a <;> simp [Op.equalIn,run_underlying hu]
theorem zpB {n m:Nat} (h:n<256) (hm:Nat.ble 256 m=true):n<m:=nL h (JO hm)
theorem zrT {s:ByteArray} {n:Nat} {K:UInt8->Prop} (h:n<s.size) (k:∀ u,K u):∃ u,s.data.toList[n]?=some u/\K u:=by
 have h:n<s.data.toList.length:=by simpa using h
 exact⟨_,gE h,k _⟩
theorem eqlS {P:Program} {t e:TypeId} (hu:P.underlying t=some (.slice e)) (x y:Operand) (a:Option Addr) (n c:Nat) (w:World):(do eqGuard .eql t x y (.slice a n c) (.slice none 0 0);binOp .eql t (.slice a n c) (.slice none 0 0):Sem Value).run P w = .ok (.bool a.isNone) w:=by
 have h:(Op.equal t (.slice a n c) (.slice none 0 0)).run P w = .ok a.isNone w:=by
  exact zsC hu 9999 a n c w
 have h1:(eqGuard .eql t x y (.slice a n c) (.slice none 0 0)).run P w = .ok () w:=by
  simp only [eqGuard,Bool.not_true,JC,if_false,JA]
 rw [Ji,h1];simp only [Jd,binOp,Ji,h,JA]
theorem zhA {α:Type} {E:Enc α} {T:TypeId} {w:World}:OwnS E T w.heap.size (w.alloc (.cells #[] T)) (some ⟨w.heap.size,0,none⟩) 0 []:=by
 unfold OwnS World.ownsRow;exact⟨by simp,.inr ⟨w.heap.size,0,#[],rfl,Jb _,hnew w _,Jb _,Jh _,by simp,by simp⟩⟩
theorem zkT {p:Option Addr} {cap:Nat} {l:List UInt8} {w:World} (hl:SlR zaI w p l) (hn:l.length<=1000000) (hc:p=none->cap=0) :
  Calls Tryz.prog 136 #[.slice p l.length cap] w fun e w'=>(∃ q c,e = .returned (.slice q l.length c)/\OwnS zaI 5 w.heap.size w' q c l)/\Bw w w':=by
 refine cofE 8 [.slice p l.length cap] Tryz.func136 ?_;refine⟨_,fun w=>eqlS Tryz.underlying72 _ _ p l.length cap w,?_⟩
 cases p with
 | none =>
  refine brT ?_;have e:=hl.none;subst e;exact⟨⟨none,0,rfl,OwnS.nil⟩,Ja _ _⟩
 | some a =>
  refine brF ⟨⟨by decide,by decide,rfl⟩,[],rfl,?_⟩;have hb0:Bw w (w.alloc (.cells #[] 5)):=zba w _;refine zia (E:=zaI) (T:=5) (B:=w.heap.size) (l:=[]) (news:=l) (cap:=0) Tryz.underlying72 k5 rfl rfl rfl zhA rfl (hl.below hb0) (fun h=>by cases h) hb0.size (by simp;omega) (by simp;omega) ?_;intro p' cap' w' ho hg hbw;exact⟨⟨p',cap',rfl,ho⟩,hb0.trans hbw⟩
theorem zsh {x:UInt8} {w:World}:Calls Tryz.prog 278 #[u8 x] w fun e w'=>e = .returned (.bool false)/\w=w':=by
 refine cofE 6 [u8 x] Tryz.func278 ?_;refine⟨rb ?_,rfl⟩;rw [Ka rfl];rfl
theorem zqE {x y:UInt8} {w:World}:Calls Tryz.prog 260 #[u8 x,u8 y] w fun e w'=>e = .returned (.bool (decide ((x.toNat:Int)<(y.toNat:Int))))/\w=w':=by
 refine cofE 17 [u8 x,u8 y] Tryz.func260 ?_;refine cmo zsh ?_;rintro e _ ⟨rfl,rfl⟩;exact brF (brF ⟨rfl,rfl⟩)
def srt8:List UInt8->Bool
 | []=>true
 | [_]=>true
 | x::y::r=>decide (x.toNat<=y.toNat)&&srt8 (y::r)
theorem zlU:∀ (l:List UInt8),srt8 l=true->∀ (k:Nat) (h:k+1<l.length),(l[k]).toNat<=(l[k+1]).toNat
 | [],_,k,h=>by simp at h
 | [x],_,k,h=>by simp at h
 | x::y::r,hs,k,h=>by
  unfold srt8 at hs;rw [bAT,dE] at hs
  cases k with
  | zero=>exact hs.1
  | succ k=>exact zlU (y::r) hs.2 k (by simpa using h)
section
variable {b o cap:Nat} {l:List UInt8} {w:World}
theorem zll (hl:SlR zaI w (some ⟨b,o,none⟩) l) (h12:l.length<=12) (hs:srt8 l=true) :
  CB 254 #[.slice (some ⟨b,o,none⟩) l.length cap,i64 0,i64 l.length] w (.tuple #[]):=by
 refine cofE 49 [.slice (some ⟨b,o,none⟩) l.length cap,i64 0,i64 l.length] Tryz.func254 ?_;refine⟨1,by decide,?_⟩;refine⟨Nat,fun k=>⟨[(0,.slice (some ⟨b,o,none⟩) l.length cap),(1,i64 0),(2,i64 l.length),(6,i64 (k+1:Nat))],[]⟩,fun k X=>Bw w X,fun k=>l.length-k,0,
  (cvE rfl rfl),Ja _ _,?_⟩
 rintro k X hb;refine biE (fun hc=>?_) fun hc=>?_
 ·have hc:((k+1:Nat):Int)<(l.length:Int):=dT hc;have hk:k+1<l.length:=by omega
  refine⟨Unit,fun _=>⟨[(0,.slice (some ⟨b,o,none⟩) l.length cap),(1,i64 0),(2,i64 l.length),(6,i64 (k+1:Nat)),(7,i64 (k+1:Nat))],[]⟩,fun _ Y=>Bw w Y,fun _=>0,(),(cvE rfl rfl),hb,?_⟩;rintro _ Y hbY;have hbD:Bw w Y.drew:=hbY.drew;refine DrawE.ord [] [0,1,2,3,4,5,6,7,8,9,10,11,12,13,14] (by kernel_rfl) (brE (Ka (by omega)) ?_);obtain⟨b',o',hp,hlt',hat⟩:=(hl.below hbD).at hk;simp only [Jf,Addr.mk.injEq,and_true] at hp;obtain⟨rfl,rfl⟩:=hp;refine⟨k+1,rfl,hk,u8 l[k+1],by have:=zac (hat (k+1) hk) (i:=0) (v:=u8 l[k+1]) rfl;exact this,(k:Nat),(zaj (by omega)).trans (by omega),k,rfl,by omega,?_⟩;refine⟨u8 l[k],by have:=zac (hat k (by omega)) (i:=0) (v:=u8 l[k]) rfl;exact this,cmo zqE ?_⟩;rintro e _ ⟨rfl,rfl⟩;refine⟨Ja _ _,?_⟩;have hle:=zlU l hs k hk;exact brN (Kb (by omega)) ⟨((k+1+1:Nat):Int),(zaj (by omega)).trans (by omega),k+1,(cvE rfl rfl),hbD,zdc (by omega)⟩
 ·exact⟨rfl,hb⟩
theorem zr7 {m:Int} (hl:SlR zaI w (some ⟨b,o,none⟩) l) (h12:l.length<=12) (hs:srt8 l=true) :
  CB 226 #[.slice (some ⟨b,o,none⟩) l.length cap,i64 0,i64 l.length,i64 m] w (.tuple #[]):=by
 refine cofE 134 [.slice (some ⟨b,o,none⟩) l.length cap,i64 0,i64 l.length,i64 m] Tryz.func226 ?_;refine⟨Unit,fun _=>⟨[(0,.slice (some ⟨b,o,none⟩) l.length cap),(1,i64 0),(2,i64 l.length),(3,i64 m)],[]⟩,fun _ X=>w=X,fun _=>0,(),(cvE rfl rfl),rfl,?_⟩;rintro _ _ rfl;refine⟨(l.length:Nat),(zaj (by omega)).trans (by omega),brE (Ka (by omega)) (cmo (zll hl h12 hs) ?_)⟩;rintro e X ⟨rfl,hb⟩;exact⟨rfl,hb⟩
theorem zrB {n:Nat} (h:n<256):Calls Tryz.prog 264 #[.int .u64 (n:Nat)] w fun e w'=>(∃ m:Int,e = .returned (i64 m))/\w=w':=by
 refine cofE 25 [.int .u64 (n:Nat)] Tryz.func264 ?_;exact brN (Kb (by omega)) (brN (Kb (by omega)) (brN (Kb (by omega)) ⟨(n:Nat),zhn (by omega),n,rfl,zpB h (by kernel_rfl),zrT (zpB h (by kernel_rfl)) fun u=>⟨_,rfl,_,rfl,⟨_,rfl⟩,rfl⟩⟩))
theorem znH {n:Nat} (h:n<256):Calls Tryz.prog 227 #[.int .u64 (n:Nat)] w fun e w'=>(∃ m:Int,e = .returned (i64 m))/\w=w':=by
 refine cofE 8 [.int .u64 (n:Nat)] Tryz.func227 ?_;refine brF (cmo (zrB h) ?_);rintro e _ ⟨⟨m,rfl⟩,rfl⟩;exact⟨⟨m,rfl⟩,rfl⟩
theorem zrv (hl:SlR zaI w (some ⟨b,o,none⟩) l) (h12:l.length<=12) (hs:srt8 l=true) :
  CB 193 #[.slice (some ⟨b,o,none⟩) l.length cap] w (.tuple #[]):=by
 refine cofE 11 [.slice (some ⟨b,o,none⟩) l.length cap] Tryz.func193 ?_;refine⟨(l.length:Nat),zfs (by omega),cmo (znH (by omega)) ?_⟩;rintro e _ ⟨⟨m,rfl⟩,rfl⟩;refine cmo (zr7 hl h12 hs) ?_;rintro e X ⟨rfl,hb⟩;exact⟨rfl,hb⟩
end
section
variable {r:RelD}
theorem zt5 {bx:Nat} {W0:World} (hr:WrdR r.to) (hn:r.n<=48) (fx:RelH W0 bx r) (hT:Tz64M W0) :
  zly Tryz.prog 268 [At0 bx] (ordR r) W0 (fun k=>k=bx\/k=4) (fun _=>False) StO:=by
 intro yl F0 J Jx W hsz hrd hrf hJ hJx hy h0;have fxW:RelH W bx r:=(hrd bx (.inl (.inl rfl))).trans fx;have hTW:Tz64M W:=zbZ hT (hrd _ (.inl (.inr rfl)));refine cofE 17 [.func (.yield yl) #[] #[],At0 bx] Tryz.func268 ?_;refine⟨relC r,zae _,zaa fxW,hlt fxW,cmo (zjb hr hTW) ?_⟩;rintro e X ⟨rfl,hbX⟩;refine biE (fun h=>?_) fun h=>?_
 ·have h:acyR r=false:=by
   have h:(!acyR r)=true:=h;simpa using h
  have hs:ordR r=[]:=by unfold ordR;rw [h];rfl
  rw [hs];exact⟨⟨_,rfl⟩,.inl ⟨F0,hJ.step _ _ _ _ h0 (.below hbX)⟩⟩
 have h:acyR r=true:=by
  have h:(!acyR r)=false:=h;simpa using h
 have hs:ordR r=extR (zbB r).to 64 (allM r.n) []:=by unfold ordR;rw [h];rfl
 rw [hs] at hy ⊢;refine⟨relC r,zae _,zaa (zab hbX fxW),hlt (zab hbX fxW),cmo (zhl hr (hTW.below hbX)) ?_⟩;rintro e Y ⟨rfl,hbY,hrB⟩;have hbXY:=zst hbX hbY;refine zak (X:=Y) (v := .agg (relC (zbB r)).toArray) k30 (zae _) (by kernel_rfl) (zaw _) fun V hbV fV sV=>?_;have hbV2:=zst hbXY hbV;have fxV:=zab hbV2 fxW;have hTV:=hTW.below hbV2;have hok:okR r=true:=by
  unfold acyR topF at h
  split at h
  ·assumption
  ·simp at h
 obtain⟨p0,p48,_⟩:=zaX hok;obtain⟨n,hnn⟩:∃ n:Nat,r.n=n:=⟨r.n.toNat,by omega⟩;have hn48:n<=48:=by omega
 have hal:els (allN n)=List.range n:=zjM (by omega);have wY:=hbXY.size;have hbVF:¬ F0 Y.heap.size:=fun h=>by have:=(hJ.lt _ _ _ _ h0 h).1;omega
 have htl:=zcA hTW;have hJn:JG W.heap.size (fun _=>False) (fun pre F Z=>J pre F Z/\W.heap.size<=Z.heap.size):=⟨fun s F A B ⟨h,hn⟩ hs=>⟨hJ.step _ _ _ _ h hs,Jj hn hs.size⟩,fun s F A k ⟨h,_⟩ hk=>hJ.lt _ _ _ _ h hk⟩;have hal2:allM r.n=allN n:=by rw [zgD,hnn]
 have main:∀ Z:World,OwnS natE 3 V.heap.size Z (some ⟨V.heap.size,0,none⟩) n []->Bw V Z->Calls Tryz.prog 269 #[At0 Y.heap.size,s64 (allN n),.slice (some ⟨V.heap.size,0,none⟩) 0 n,.func (.yield yl) #[] #[]] Z fun e Y2=>(∃ v,e = .returned v)/\((∃ F',J (extR (zbB r).to 64 (allM r.n) []) F' Y2)\/∃ pre F',pre <+: extR (zbB r).to 64 (allM r.n) []/\Jx pre F' Y2):=by
  intro Z oZ hbZ;have hbWZ:Bw W Z:=zst hbV2 hbZ;refine cmo (zo2 (l:=[]) (J:=fun pre F Z=>J pre F Z/\W.heap.size<=Z.heap.size) (Jx:=Jx) (n0:=W.heap.size) (n:=n) (bB:=Y.heap.size) (r:=zbB r) (xs:=extR (zbB r).to 64 (allM r.n) []) hJn (fun _ _ _ h=>h.2) (fun pre x vs F W1 ⟨hj,hn⟩ hst hpre=>YieldR.mono (hy pre x vs F W1 hj hst hpre) fun v W2 h=>?_) hrB hn48 htl 64 (allN n) V.heap.size [] F0 Z (zgs _) (zbu _) (fun i hi=>by
   rw [hal] at hi;have:=Jt.1 hi;omega) (by rw [hal];simp) (oZ.lower hbV2.size) (fun h=>?_) ⟨hJ.step _ _ _ _ h0 (.below hbWZ),hbWZ.size⟩ (zab hbZ fV) hbVF wY (by omega) (hTV.below hbZ) (hrf _ (.inr rfl)) (by rw [hal2];exact List.prefix_refl _)) ?_
  ·rcases h with ⟨rfl,F',h1,h2⟩ | h
   ·exact .inl ⟨rfl,F',⟨h1,Jj hn h2.size⟩,h2⟩
   ·exact .inr h
  ·have:=(hJ.lt _ _ _ _ h0 h).1;have:=hbV2.size;omega
  ·rintro e Y2 (⟨rfl,F',⟨hj,_⟩,_⟩ | ⟨rfl,pre',F',h1,h2⟩)
   ·rw [hal2];exact⟨⟨_,rfl⟩,.inl ⟨F',hj⟩⟩
   ·exact⟨⟨_,rfl⟩,.inr ⟨pre',F',h1,h2⟩⟩
 refine DrawE.treeQ [7] (.op 0 (.op 1 (.op 3 (.op 4 (.op 6 (.alt (.op 2 (.op 5 (.op 7 .nil))) (.op 5 (.op 2 (.op 7 .nil))))))))) (by kernel_rfl) ⟨i64 n,by rw [<- hnn];exact zac (zaa fxV) (i:=0) rfl,i64 n,by rw [<- hnn];exact zac (zaa fxV) (i:=0) rfl,Jn ?_ ?_⟩
 ·refine cmo zgL ?_;rintro e _ ⟨rfl,rfl⟩;refine⟨Ja _ _,zeD (E:=natE) Tryz.underlying128 k3 rfl rfl rfl n (by show 8*n<=_;omega) (by unfold maxLen;omega) fun Z oZ hbZ sZ=>⟨hbZ,cmo (main Z oZ (((Ja _ V).drew).trans hbZ)) ?_⟩⟩;rintro e Y2 ⟨⟨v,rfl⟩,h⟩;exact⟨⟨_,rfl⟩,h⟩
 ·refine zeD (E:=natE) Tryz.underlying128 k3 rfl rfl rfl n (by show 8*n<=_;omega) (by unfold maxLen;omega) fun Z oZ hbZ sZ=>⟨hbZ,cmo zgL ?_⟩;rintro e _ ⟨rfl,rfl⟩;refine⟨Ja _ _,cmo (main Z oZ (((Ja _ V).drew).trans hbZ)) ?_⟩;rintro e Y2 ⟨⟨v,rfl⟩,h⟩;exact⟨⟨_,rfl⟩,h⟩
theorem zs2 {w:World}:Calls Tryz.prog 233 #[.agg (relC r).toArray] w fun e w'=>e = .returned (.func (.func 268) #[] #[At0 w.heap.size])/\RelH w' w.heap.size r/\w'.heap.size=w.heap.size+1/\Bw w w':=by
 refine cofE 4 [.agg (relC r).toArray] Tryz.func233 ?_;exact⟨rfl,hnew w _,wz _ _,(zba w _)⟩
theorem zn2 {b:Nat} {m:Nat} {w:World} (hr:WrdR r.to) (fb:RelH w b r):CB 232 #[At0 b,i64 m] w (.bool (decide (m<=10000)&&okR r)):=by
 refine cofE 17 [At0 b,i64 m] Tryz.func232 ?_;refine biE (fun h=>?_) fun h=>?_
 ·refine biE (fun h2=>?_) fun h2=>?_
  ·have h2:(m:Int)<=10000:=dT h2;refine⟨relC r,zae _,zaa fb,hlt fb,cmo (zaV hr) ?_⟩;rintro e Y ⟨rfl,hbY⟩;exact⟨rb (by rw [Ka (show m<=10000 by omega),Js]),hbY⟩
  ·have h2:¬ (m:Int)<=10000:=dF h2;exact⟨rb (by rw [Kb (show ¬ m<=10000 by omega),JJ]),Ja _ _⟩
 ·have h:¬ (0:Int)<=m:=dF h;omega
end
def zbG:Enc (List Nat×Option Addr×Nat) where
 sz:=1
 enc x:=[.slice x.2.1 x.1.length x.2.2]
 len x:=rfl
 one x v hv:=by
  simp at hv;subst hv;rfl
 pos:=by decide
theorem zpp {p:Option Addr} {cap:Nat} {l:List Nat} {w:World} (hl:SlR natE w p l) (hn:l.length<=100000) (hc:p=none->cap=0) :
  Calls Tryz.prog 234 #[.slice p l.length cap] w fun e w'=>(∃ q c,e = .returned (.slice q l.length c)/\OwnS natE 3 w.heap.size w' q c l)/\Bw w w':=by
 refine cofE 8 [.slice p l.length cap] Tryz.func234 ?_;refine⟨_,fun w=>eqlS Tryz.underlying128 _ _ p l.length cap w,?_⟩
 cases p with
 | none =>
  refine brT ?_;have e:=hl.none;subst e;exact⟨⟨none,0,rfl,OwnS.nil⟩,Ja _ _⟩
 | some a =>
  refine brF ⟨⟨by decide,by decide,rfl⟩,[],rfl,?_⟩;have hb0:Bw w (w.alloc (.cells #[] 3)):=zba w _;refine zia (E:=natE) (T:=3) (B:=w.heap.size) (l:=[]) (news:=l) (cap:=0) Tryz.underlying128 k3 rfl rfl rfl zhA rfl (hl.below hb0) (fun h=>by cases h) hb0.size (by simp;omega) (by show (0+l.length)*8<=_;omega) ?_;intro p' cap' w' ho hg hbw;exact⟨⟨p',cap',rfl,ho⟩,hb0.trans hbw⟩
def NInI (B:Nat) (F:Nat->Prop) (Y:World) (x:List Nat×Option Addr×Nat):Prop:=OwnS natE 3 B Y x.2.1 x.2.2 x.1/\∀ a,x.2.1=some a->F a.block
theorem zf6 (B:Nat):zlx 128 170 (NInI B):=by
 rintro F G Y Z x ⟨h1,h2⟩ hs hFG;refine⟨h1.same fun a ha=>?_,fun a ha=>hFG _ (h2 a ha)⟩;obtain⟨_,_,cur,hc⟩:=zau h1 ha;exact hs _ cur 3 (h2 a ha) hc (by decide) (by decide)
theorem zqO {before:Nat->Nat}:∀ (m left:Nat) (l:List Nat),∀ x∈extR before m left l,x.length<=l.length+m:=by
 intro m
 induction m with
 | zero =>
  intro left l x hx;unfold extR at hx
  split at hx
  ·simp only [Jl] at hx;subst hx;omega
  ·cases hx
 | succ m ih =>
  intro left l x hx;unfold extR at hx
  split at hx
  ·simp only [Jl] at hx;subst hx;omega
  ·obtain⟨a,_,ha⟩:=List.mem_flatMap.1 hx
   split at ha
   ·have:=ih _ _ _ ha;simp only [lap,Jq,JW] at this;omega
   ·cases ha
theorem zmx {r:RelD} {x:List Nat} (h:x∈ordR r):x.length<=64:=by
 unfold ordR at h
 split at h
 ·have:=zqO _ _ _ x h;simpa using this
 ·cases h
def AscB (xs:List (List Nat×Option Addr×Nat)):Prop:=xs.Pairwise fun x y=>∀ a b,x.2.1=some a->y.2.1=some b->a.block<b.block
theorem AscB.snoc {xs:List (List Nat×Option Addr×Nat)} {n:Nat} {y:List Nat×Option Addr×Nat} (h:AscB xs) (h1:∀ x∈xs,∀ a,x.2.1=some a->a.block<n) (h2:∀ a,y.2.1=some a->n<=a.block):AscB (xs++[y]):=by
 unfold AscB;rw [List.pairwise_append];refine⟨h,List.pairwise_singleton _ _,fun x hx z hz a b ha hb=>?_⟩;rw [Jl.1 hz] at hb;exact nL (h1 x hx a ha) (h2 b hb)
abbrev ztZ:List (List Nat×Option Addr×Nat):=[]
theorem zpm {r:RelD} {m:Nat} {w:World} (hr:WrdR r.to) (hT:Tz64M w) (hm:m<=10000) (hok:okR r=true) :
  Calls Tryz.prog 203 #[.agg (relC r).toArray,i64 m] w fun e w' =>
   (((ordR r).length<=m/\∃ (xs:List (List Nat×Option Addr×Nat)) (p:Option Addr) (c:Nat),e = .returned (.tuple #[.slice p xs.length c,i64 0])/\xs.map (·.1)=ordR r/\AscB xs/\OwnS zbG 128 w.heap.size w' p c xs/\∀ x∈xs,OwnS natE 3 w.heap.size w' x.2.1 x.2.2 x.1) \/
    (m<(ordR r).length/\e = .returned (.tuple #[.slice none 0 0,i64 5])))/\Bw w w':=by
 refine cofM 24 [.agg (relC r).toArray,i64 m] (.c .p (.s .p (.c .p .p))) Tryz.func203 ?_;obtain⟨L,hL⟩:=nm (w.heap.size);refine⟨Unit,fun _=>⟨[(2,At0 L),(3,At0 (L+1)),(4,At0 (L+2)),(5,At0 (L+3))],[]⟩,fun _ X=>(RelH X L r/\X.heap[L+1]?=some (.cells #[i64 m] 3 (0,0))/\X.heap[L+2]?=some (.cells #[.slice none 0 0] 170 (0,0))/\X.heap[L+3]?=some (.cells #[i64 0] 42 (0,0)))/\X.heap.size=L+4/\Bw w X,?_,?_⟩
 ·have s1:=wz w (.cells (relC r).toArray 30);have h2:=hnew (w.alloc (.cells (relC r).toArray 30)) (.cells #[i64 m] 3 (0,0));have s2:=wz (w.alloc (.cells (relC r).toArray 30)) (.cells #[i64 m] 3 (0,0));have h3:=hnew ((w.alloc (.cells (relC r).toArray 30)).alloc (.cells #[i64 m] 3 (0,0))) (.cells #[.slice none 0 0] 170 (0,0));have s3:=wz ((w.alloc (.cells (relC r).toArray 30)).alloc (.cells #[i64 m] 3 (0,0))) (.cells #[.slice none 0 0] 170 (0,0));have h4:=hnew (((w.alloc (.cells (relC r).toArray 30)).alloc (.cells #[i64 m] 3 (0,0))).alloc (.cells #[.slice none 0 0] 170 (0,0))) (.cells #[i64 0] 42 (0,0));have s4:=wz (((w.alloc (.cells (relC r).toArray 30)).alloc (.cells #[i64 m] 3 (0,0))).alloc (.cells #[.slice none 0 0] 170 (0,0))) (.cells #[i64 0] 42 (0,0));rw [s1] at h2 s2;rw [s2] at h3 s3;rw [s3] at h4 s4;rw [<- hL] at h2 s2 h3 s3 h4 s4;have f0:=hold (.cells #[i64 0] 42 (0,0)) (hold (.cells #[.slice none 0 0] 170 (0,0)) (hold (.cells #[i64 m] 3 (0,0)) (hnew w (.cells (relC r).toArray 30))));rw [<- hL] at f0;exact⟨(),⟨.cons (by rw [hL];rfl) (.cons (by rw [hL,<- s1];rfl) (.cons (by rw [<- s2];rfl) (.cons (by rw [<- s3];rfl) .nil))),rfl⟩,⟨f0,hold _ (hold _ h2),hold _ h3,h4⟩,s4,((((zba w _)).alloc (by simp) _).alloc (by simp;omega) _).alloc (by simp;omega) _⟩
 rintro _ X ⟨⟨f0,f1,f2,f3⟩,sX,hbX⟩;refine⟨_,zac (zaa f1) (i:=0) rfl,cmo (zn2 hr f0) ?_⟩;rintro e Y ⟨rfl,hbY⟩;refine brN (by rw [hok,Ka hm];rfl) ?_;have hwY:=zst hbX hbY;obtain⟨M,hM⟩:=nm (Y.heap.size);have hMX:L+4<=M:=by have:=hbY.size;omega
 refine⟨Unit,fun _=>⟨[(2,At0 L),(3,At0 (L+1)),(4,At0 (L+2)),(5,At0 (L+3)),(6,At0 M)],[]⟩,fun _ V=>V.heap[M]?=some (.cells #[.slice none 0 0] 170 (0,0))/\V.heap.size=M+1/\Bw X V,?_,?_⟩
 ·exact⟨(),⟨.cons rfl (.cons rfl (.cons rfl (.cons rfl (.cons (by rw [hM];rfl) .nil)))),rfl⟩,by rw [hM];exact hnew Y _,by rw [hM];exact wz Y _,hbY.alloc hbY.size _⟩
 rintro _ V ⟨fM,sV,hbV⟩;have hwV:=zst hbX hbV;have f0:=zab hbV f0;have f1:=zab hbV f1;have f2:=zab hbV f2;have f3:=zab hbV f3;refine⟨relC r,zae _,zaa f0,hlt f0,cmo zs2 ?_⟩;rintro e W ⟨rfl,fx,sW,hbW⟩;obtain⟨p0,p48,_⟩:=zaX hok;have hwW:=zst hwV hbW;have htl:=zcA hT;have hI:=zt5 hr p48 fx (hT.below hwW);have f1:=zab hbW f1;have f2:=zab hbW f2;have f3:=zab hbW f3;have fM:=zab hbW fM;have hwL:w.heap.size=L:=hL.symm;clear hbV hbY hwY hbX f0 sX;refine zfe (sgOk _) rfl (lb := #[At0 V.heap.size]) rfl rfl hI (Jb _) (fun k hk=>⟨?_,rfl⟩) (fun pre vs W ⟨l,q,c,_,h,_⟩=>by rw [h];rfl) (by decide)
  (fun k=>k=M\/k=L+2\/k=L+3)
  (fun pre F Z=>(∃ xs,(xs.map (·.1)=pre/\pre.length<=m/\AscB xs)/\Gath zbG 128 170 (L+4) W.heap.size M W (NInI (L+4)) xs F Z)/\F (L+2)/\F (L+3))
  (fun ex pre F Z=>ex = .ret/\m<(ordR r).length/\Z.heap[L+2]?=some (.cells #[.slice none 0 0] 170 (0,0))/\Z.heap[L+3]?=some (.cells #[i64 5] 42 (0,0))/\Bw w Z/\W.heap.size<=Z.heap.size/\F (L+2)/\F (L+3)/\∀ k,F k->k<Z.heap.size)
  (fun k hk=>?_) ⟨?_,?_⟩ (fun ex=>⟨?_,?_⟩) ?_ ?_ ?_ ?_
 ·rcases hk with (rfl | rfl) | h
  ·omega
  ·have:=hwW.size;omega
  ·exact h.elim
 ·rcases hk with rfl | rfl <;> omega
 ·rintro pre F A C ⟨h,h2,h3⟩ hs;exact⟨(Gath.iter (σ:=List (List Nat)) (f:=fun pre xs=>xs.map (·.1)=pre/\pre.length<=m/\AscB xs) (zf6 (L+4)) (by omega)).step pre F A C h hs,h2,h3⟩
 ·rintro pre F A k ⟨h,_⟩ hk;exact (Gath.iter (σ:=List (List Nat)) (f:=fun pre xs=>xs.map (·.1)=pre/\pre.length<=m/\AscB xs) (zf6 (L+4)) (by omega)).lt pre F A k h hk
 ·rintro pre F A C ⟨h1,h2,h3,h4,h5,h6,h7,h8,h9⟩ hs;exact⟨h1,h2,(hs.same _ (hlt h3) (.inr h7)).trans h3,(hs.same _ (hlt h4) (.inr h8)).trans h4,h5.trans ⟨hs.os,hs.tape,hs.output,hs.size,fun k hk=>hs.same k (nL hk h5.size) (.inl ⟨by omega,fun h=>h⟩)⟩,Jj h6 hs.size,h7,h8,fun k hk=>nL (h9 k hk) hs.size⟩
 ·rintro pre F A k ⟨h1,h2,h3,h4,h5,h6,h7,h8,h9⟩ hk;exact⟨h9 k hk,fun h=>h⟩
 ·refine⟨⟨ztZ,⟨rfl,Jh _,List.Pairwise.nil⟩,⟨Jb _,.inl rfl,fun k hk=>?_,⟨none,0,fM,OwnS.nil,fun a h=>by cases h⟩,fun x hx=>(by cases hx),Ja _ _⟩⟩,.inr (.inl rfl),.inr (.inr rfl)⟩;rcases hk with rfl | rfl | rfl <;> omega
 ·rintro yl pre x vs F Y hyl hpre hJ ⟨l,q,c,hlast,rfl,hsl,hqc,hcel⟩ hfy ⟨lo,hlo⟩;have hxR:x=l:=by simpa using hlast
  subst hxR;refine⟨rfl,F,KeepsG.refl _ _,hJ,?_⟩;rintro o Y2 hY2 ⟨⟨xs,⟨hxs,hpm,hasc⟩,hG⟩,hF2,hF3⟩;have hpl:pre.length<(ordR r).length:=by
   obtain⟨t,ht⟩:=hpre;rw [<- ht];simp only [lap,Jq];omega
  have hxl:xs.length=pre.length:=by rw [<- hxs,Jc]
  have hmem:x∈ordR r:=hpre.subset (by simp);have hlen:=zmx hmem;have hslY:SlR natE Y2 q x:=by
   rw [hY2];refine zbf hsl fun a ha=>zai fun e=>?_;obtain⟨cur,hcur⟩:=hcel a ha;rw [e,hlo] at hcur
   cases hcur
  obtain⟨p,c',h4,h5,h6⟩:=hG.row;have hWL:L+4<=W.heap.size:=by omega
  have g1:Y2.heap[L+1]?=some (.cells #[i64 m] 3 (0,0)):=(hG.old.block _ (by omega)).trans f1;refine⟨_,zac (zaa h4) (i:=0) rfl,_,zac (zaa g1) (i:=0) rfl,biE (fun hc=>?_) fun hc=>?_⟩
  ·have hc:((xs.length:Nat):Int)=(m:Int):=dT hc;have g2:Y2.heap[L+2]?=some (.cells #[.slice none 0 0] 170 (0,0)):=(hG.old.block _ (by omega)).trans f2;have g3:Y2.heap[L+3]?=some (.cells #[i64 0] 42 (0,0)):=(hG.old.block _ (by omega)).trans f3;refine zaq k170 g2 (o:=0) (v := .slice none 0 0) rfl rfl (by show 0<1;decide) rfl fun Z1 fZ1 gZ1 sZ1=>zaq k42 ((gZ1.block (L+3) (hlt g3) (by simp)).trans g3) (o:=0) (v:=i64 5) rfl rfl (by show 0<1;decide) rfl fun Z2 fZ2 gZ2 sZ2=>⟨F,⟨rfl,by omega,(gZ2.block (L+2) (hlt fZ1) (by simp)).trans fZ1,fZ2,?_,by have:=hG.size;omega,hF2,hF3,fun k hk=>by have:=hG.lt k hk;omega⟩,(KeepsG.grown gZ1 hF2).trans (KeepsG.grown gZ2 hF3)⟩;have hwY:=hwW.trans (hG.old.mono (by omega));exact (hwY.trans (zan gZ1 hwY.size (by omega))).trans (zan gZ2 (by have:=hwY.size;omega) (by omega))
  ·have hc:¬ ((xs.length:Nat):Int)=(m:Int):=dF hc;refine DrawE.ord [4,5] [0,1,2,3,4,5] (by kernel_rfl) ?_;have hd2:Bw Y2 Y2.drew:=(Ja _ _).drew;refine⟨_,zac (zaa (hdr h4)) (i:=0) rfl,cmo (zpp (hslY.below hd2) (by omega) hqc) ?_⟩;rintro e Y3 ⟨⟨q1,k1,rfl,o1⟩,hb3⟩;refine⟨hb3,?_⟩;obtain⟨nx,hnx⟩:∃ nx:List Nat×Option Addr×Nat,nx=(x,q1,k1):=⟨_,rfl⟩;have hen:[Value.slice q1 x.length k1]=zbG.enc nx:=by rw [hnx];rfl
   refine⟨⟨by decide,by decide,rfl⟩,zbG.enc nx,by rw [<- hen];rfl,?_⟩;have hba:Bw Y3 (Y3.alloc (.cells (zbG.enc nx).toArray 128)):=zba _ _;refine⟨hba,?_⟩;have hnw:∀ (G:Nat->Prop) (Z:World),(∀ k,Y2.heap.size<=k->k<Y3.heap.size->Z.heap[k]?=Y3.heap[k]?)->(∀ k,Y2.heap.size<=k->k<Y3.heap.size->G k)->NInI (L+4) G Z nx:=by
    intro G Z hs hg;rw [hnx];have ol:∀ a,q1=some a->Y2.heap.size<=a.block/\a.block<Y3.heap.size:=fun a ha=>⟨(zau o1 ha).1,(zau o1 ha).2.1⟩;have hY2s:=hG.size;exact⟨OwnS.lower (o1.same fun a ha=>hs _ (ol a ha).1 (ol a ha).2) (by show L+4<=Y2.heap.size;omega),fun a ha=>hg _ (ol a ha).1 (ol a ha).2⟩
   obtain⟨v,Y5,hrun,Z,hrun2,F',hG',hK',hFF⟩:=hG.step (P:=Tryz.prog) (ty:=170) (cap1:=1) (zf6 (L+4)) (by decide) Tryz.underlying170 k128 rfl rfl rfl k170 rfl (by omega) (by omega) (hd2.trans hb3) nx (by omega) (by show (xs.length+1)*24<=_;omega) hnw p c' h4;exact SatR.mk hrun (SatR.mk hrun2 ⟨F',⟨⟨_,⟨by rw [Jw,hxs,hnx];rfl,by simp only [lap,Jq,JW];omega,hasc.snoc (n:=Y2.heap.size) (fun x' hx' a ha=>(zau (hG.nest x' hx').1 ha).2.1) (fun a ha=>by rw [hnx] at ha;exact (zau o1 ha).1)⟩,hG'⟩,hFF _ hF2,hFF _ hF3⟩,hK'⟩)
 ·rintro D F Y hD hfD ⟨⟨xs,⟨hxs,hpm,hasc⟩,hG⟩,hF2,hF3⟩ hdef;obtain⟨p,c',h4,h5,h6⟩:=hG.row;have hWL:L+4<=W.heap.size:=by omega
  have g2:Y.heap[L+2]?=some (.cells #[.slice none 0 0] 170 (0,0)):=(hG.old.block _ (by omega)).trans f2;have g3:Y.heap[L+3]?=some (.cells #[i64 0] 42 (0,0)):=(hG.old.block _ (by omega)).trans f3;refine⟨_,zac (zaa h4) (i:=0) rfl,zaq k170 g2 (o:=0) (v := .slice p xs.length c') rfl rfl (by show 0<1;decide) rfl fun Z1 fZ1 gZ1 sZ1=>zaq k42 ((gZ1.block (L+3) (hlt g3) (by simp)).trans g3) (o:=0) (v:=i64 0) rfl rfl (by show 0<1;decide) rfl fun Z2 fZ2 gZ2 sZ2=>?_⟩;have k2:∀ k,k<Y.heap.size->k≠L+2->k≠L+3->Z2.heap[k]?=Y.heap[k]?:=fun k hk n1 n2=>(gZ2.block k (by rw [sZ1];exact hk) (by simpa using n2)).trans (gZ1.block k hk (by simpa using n1));refine⟨_,rfl,(k2 D (hlt hdef) (by omega) (by omega)).trans hdef,?_⟩;have f2':=(gZ2.block (L+2) (hlt fZ1) (by simp)).trans fZ1;have nD2:D≠L+2:=fun e=>hfD (e▸hF2);have nD3:D≠L+3:=fun e=>hfD (e▸hF3);have hwY:=hwW.trans (hG.old.mono (by omega));have b2:=(hwY.trans (zan gZ1 hwY.size (by omega))).trans (zan gZ2 (by have:=hwY.size;omega) (by omega));have kp:∀ a:Addr,L+4<=a.block->F a.block->a.block<Y.heap.size->(Z2.putObj D (.deferred none)).heap[a.block]?=Y.heap[a.block]?:=fun a h1 h2 h3=>(zai fun e=>by rw [<- e] at hfD;exact hfD h2).trans (k2 _ h3 (by omega) (by omega));refine⟨.slice p xs.length c',zac (zaa ((zai fun e=>nD2 e.symm).trans f2')) (i:=0) rfl,i64 0,zac (zaa ((zai fun e=>nD3 e.symm).trans fZ2)) (i:=0) rfl,.inl ⟨by rw [<- hxs,Jc] at hpm ⊢;exact hpm,xs,p,c',rfl,hxs,hasc,?_,fun x hx=>?_⟩,zbj b2 (by omega) _⟩
  ·exact OwnS.lower (h5.same fun a ha=>kp a (zau h5 ha).1 (h6 a ha) (zau h5 ha).2.1) (by omega)
  ·obtain⟨hx1,hx2⟩:=hG.nest x hx;exact OwnS.lower (hx1.same fun a ha=>kp a (zau hx1 ha).1 (hx2 a ha) (zau hx1 ha).2.1) (by omega)
 ·rintro D ex pre F Y hD hfD hpre ⟨rfl,hm2,h3,h4,h5,h6,h7,h8,h9⟩ hdef;refine⟨_,rfl,hdef,?_⟩;have nD2:D≠L+2:=fun e=>hfD (e▸h7);have nD3:D≠L+3:=fun e=>hfD (e▸h8);exact⟨_,zac (zaa ((zai fun e=>nD2 e.symm).trans h3)) (i:=0) rfl,_,zac (zaa ((zai fun e=>nD3 e.symm).trans h4)) (i:=0) rfl,.inr ⟨hm2,rfl⟩,zbj h5 (by have:=hwW.size;omega) _⟩
theorem zpn {p:Option Addr} {cap:Nat} {l:List Nat} {s:Nat} {w:World} (hl:SlR natE w p l) (hn:l.length<=140737488351232) :
  Calls Tryz.prog 231 #[.slice p l.length cap,i64 s] w fun e w'=>∃ n:Int,e = .returned (i64 n)/\decide (0<=n)=l.any (fun q=>decide (q=s))/\w=w':=by
 refine cofE 19 [.slice p l.length cap,i64 s] Tryz.func231 ?_;refine⟨Nat,fun k=>⟨[(0,.slice p l.length cap),(1,i64 s),(7,i64 l.length),(8,i64 (k:Nat))],[]⟩,fun k X=>k<=l.length/\(∀ q∈l.take k,¬ q=s)/\w=X,fun k=>l.length-k,0,(cvE rfl rfl),⟨Jh _,by simp,rfl⟩,?_⟩;rintro k _ ⟨hk,hno,rfl⟩;dsimp only at hk hno ⊢;refine biE (fun hc=>?_) fun hc=>?_
 ·have hc:(k:Int)<(l.length:Int):=dT hc;have hkl:k<l.length:=by omega
  obtain⟨b,o,rfl,hb,hat⟩:=hl.at hkl;refine⟨k,rfl,hkl,i64 l[k],zac (hat k hkl) (i:=0) rfl,biE (fun h=>?_) fun h=>?_⟩
  ·have h:(s:Int)=(l[k]:Nat):=dT h;refine⟨k,rfl,?_,rfl⟩;rw [Ka (by omega)];symm;rw [JK];exact⟨l[k],gM _,Ka (by omega)⟩
  ·have h:¬ (s:Int)=(l[k]:Nat):=dF h;refine⟨(k+1:Nat),(zaj (by omega)).trans (by omega),k+1,(cvE rfl rfl),⟨hkl,?_,rfl⟩,zdc (by omega)⟩;rw [tsg hkl];intro q hq;rcases JM.1 hq with hq | hq
   ·exact hno q hq
   ·simp only [Jl] at hq;rw [hq];exact fun e=>h (by rw [e])
 ·have hc:¬ (k:Int)<(l.length:Int):=dF hc;obtain rfl:k=l.length:=by omega
  rw [JF] at hno;refine⟨-1,rfl,?_,rfl⟩;symm;show _=false;rw [List.any_eq_false];exact fun q hq=>by simpa using hno q hq
theorem zjT {p:Option Addr} {cap:Nat} {l:List Nat} {s:Nat} {w:World} (hl:SlR natE w p l) (hn:l.length<=140737488351232) :
  Calls Tryz.prog 199 #[.slice p l.length cap,i64 s] w fun e w'=>e = .returned (.bool (l.any fun q=>decide (q=s)))/\w=w':=by
 refine cofE 9 [.slice p l.length cap,i64 s] Tryz.func199 ?_;refine cmo (zpn hl hn) ?_;rintro e _ ⟨n,rfl,h,rfl⟩;exact⟨rb h,rfl⟩
abbrev rowI (l:List Nat):List Value:=l.map fun n:Nat=>i64 n
abbrev RowI (Z:World) (g:Nat) (l:List Nat):Prop:=Z.heap[g]?=some (.cells (rowI l).toArray 3 (0,0))
theorem zfD:∀ l:List Nat,l.flatMap natE.enc=rowI l
 | []=>rfl
 | a::l=>by
  show i64 a::l.flatMap natE.enc=i64 a::rowI l;rw [zfD l]
theorem zjW:∀ n,zrep [Value.int IntKind.i64 0] n=rowI (List.replicate n 0)
 | 0=>rfl
 | n+1=>by
  show Value.int IntKind.i64 0::zrep [Value.int IntKind.i64 0] n=i64 0::rowI (List.replicate n 0);rw [<- zjW n];rfl
theorem RowI.sl {Z:World} {g:Nat} {l:List Nat} (h:RowI Z g l):SlR natE Z (some ⟨g,0,none⟩) l :=
 SlR.of_cells (hlt h) (by rw [zfD];exact zaa h)
theorem zml {α:Type} {f:Nat->α} {n j:Nat} (h:j<n):((List.range j).map f++[f j]) <+: (List.range n).map f:=by
 obtain⟨m,rfl⟩:∃ m,n=(j+1)+m:=⟨n-(j+1),by omega⟩;rw [List.range_add,Jw];exact⟨_,by rw [Ku,Jw];rfl⟩
def StD (pre:List (List Nat)) (vs:List Value) (W:World):Prop:=∃ l q,pre.getLast?=some l/\vs=[.slice q l.length l.length]/\SlR natE W q l/\∀ a,q=some a->∃ cur,W.heap[a.block]?=some (.cells cur 3 (0,0))
section
variable {bx:Nat} {sizes:List Nat} {q:Option Addr} {c:Nat} {W0:World}
theorem zsc (fx:W0.heap[bx]?=some (.cells #[.slice q sizes.length c] 128 (0,0))) (hl:SlR natE W0 q sizes) (hql:∀ a,q=some a->a.block<W0.heap.size) (hn:sizes.length<=1000) (hm:∀ n∈sizes,n<=1000000) :
  zly Tryz.prog 198 [At0 bx] (zeq sizes) W0 (fun k=>k=bx\/∃ a,q=some a/\k=a.block) (fun _=>False) StD:=by
 intro yl F0 J Jx W hsz hrd hrf hJ hJx hy h0;have fxW:=(hrd bx (.inl (.inl rfl))).trans fx;have hlW:SlR natE W q sizes:=zbf hl fun a ha=>hrd _ (.inl (.inr ⟨a,ha,rfl⟩));refine cofE 43 [.func (.yield yl) #[] #[],At0 bx] Tryz.func198 ?_;refine⟨_,zac (zaa fxW) (i:=0) rfl,cmo (zjT (s:=0) hlW (by omega)) ?_⟩;rintro e _ ⟨rfl,rfl⟩;refine biE (fun h=>?_) fun h=>?_
 ·have h:(sizes.any fun q=>decide (q=0))=true:=h;obtain⟨z,hz,hz0⟩:=JK.1 h;have hz0:z=0:=dT hz0;subst hz0;have hs:zeq sizes=[]:=by unfold zeq;rw [zeZ (by simpa using hz)];rfl
  rw [hs];exact⟨⟨_,rfl⟩,.inl ⟨F0,h0⟩⟩
 have h:(sizes.any fun q=>decide (q=0))=false:=h;obtain⟨rs,hrs⟩:=nm (sizes.reverse);have hr0:∀ n∈rs,n≠0:=fun n hn e=>by
  rw [List.any_eq_false] at h;exact h n (by rw [hrs] at hn;simpa using hn) (Ka e)
 have hlen:rs.length=sizes.length:=by rw [hrs,List.length_reverse]
 refine⟨_,zac (zaa fxW) (i:=0) rfl,ziR Tryz.underlying128 k3 rfl rfl (by decide) sizes.length (by show 8*_<=_;omega) (by omega) fun X fX hbX sX=>?_⟩;rw [zjW] at fX;obtain⟨D,hD⟩:∃ D:Nat->List Nat,D=fun j=>(digL rs j).reverse:=⟨_,rfl⟩;have hDl:∀ j,(D j).length=sizes.length:=fun j=>by rw [hD];show ((digL rs j).reverse).length=_;rw [List.length_reverse,zfJ,hlen]
 have hds:zeq sizes=(List.range (zbc rs)).map D:=by unfold zeq;rw [hD,hrs]
 have hP:0<zbc rs:=ziy hr0;have hD0:D 0=List.replicate sizes.length 0:=by
  rw [hD];show (digL rs 0).reverse=_;rw [zi3,List.reverse_replicate,hlen]
 rw [<- hD0] at fX;rw [hds] at hy ⊢;obtain⟨g,hg⟩:=nm (W.heap.size);rw [<- hg] at fX;have hbxW:=hlt fxW;refine⟨Nat×(Nat->Prop),fun s=>⟨[(0,.func (.yield yl) #[] #[]),(1,At0 bx),(3,.slice (some ⟨g,0,none⟩) sizes.length sizes.length)],[]⟩,
  fun s Z=>s.1<zbc rs/\J ((List.range s.1).map D) s.2 Z/\RowI Z g (D s.1)/\¬ s.2 g/\W.heap.size<=Z.heap.size/\Z.heap[bx]?=some (.cells #[.slice q sizes.length c] 128 (0,0))/\¬ s.2 bx/\RowF natE W.heap.size s.2 Z q sizes,
  fun s=>zbc rs-s.1,(0,F0),⟨.cons rfl (.cons rfl (.cons (by rw [hg];rfl) .nil)),rfl⟩,
  ⟨hP,hJ.step _ _ _ _ h0 (.below hbX),fX,fun h=>by have:=(hJ.lt _ _ _ _ h0 h).1;omega,hbX.size,zab hbX fxW,hrf _ (.inl rfl),⟨hlW.below hbX,fun a ha=>⟨by have:=hql a ha;omega,hrf _ (.inr ⟨a,ha,rfl⟩)⟩⟩⟩,?_⟩
 rintro⟨j,F⟩ Z ⟨hj,hjZ,fZ,hgF,hWZ,fxZ,hbF,hqZ⟩;dsimp only at hj hjZ fZ hgF fxZ hbF hqZ ⊢;have hpre:((List.range j).map D++[D j]) <+: (List.range (zbc rs)).map D:=zml hj;refine YieldR.mono (hy _ (D j) [.slice (some ⟨g,0,none⟩) sizes.length sizes.length] F Z hjZ ⟨D j,_,by simp,by rw [hDl j],fZ.sl,fun a ha=>(by cases ha;exact⟨_,fZ⟩)⟩ hpre) ?_;rintro v Y (⟨rfl,F',hjY,kY⟩ | ⟨rfl,F',hjY⟩)
 ·refine brT ?_;have hgZ:=hlt fZ;have fY:RowI Y g (D j):=(kY.same g hgZ hgF).trans fZ;have hgF':¬ F' g:=fun h=>by
   rcases kY.fp g h with h | h
   ·exact hgF h
   ·omega
  have fxY:=(kY.same bx (hlt fxZ) hbF).trans fxZ;have hbF':¬ F' bx:=fun h=>by
   rcases kY.fp bx h with h | h
   ·exact hbF h
   ·have:=hlt fxZ;omega
  have hqY:=hqZ.keep hWZ kY (fun _ _ h=>h);have hWY:=Jj hWZ kY.size;have hjY2:J ((List.range (j+1)).map D) F' Y:=by
   rw [Ku,Jw];exact hjY
  clear hjY hpre fZ fxZ hqZ hjZ hWZ hgZ hgF hbF kY;refine⟨((sizes.length:Nat):Int)-1,zaj (by omega),?_⟩;have hgn:W.heap.size<=g:=by omega
  have hbg:bx≠g:=by omega
  refine⟨Nat,fun t=>⟨[(0,.func (.yield yl) #[] #[]),(1,At0 bx),(3,.slice (some ⟨g,0,none⟩) sizes.length sizes.length),(4,i64 (((sizes.length:Nat):Int)-1-(t:Nat)))],[]⟩,
   fun t V=>t<=sizes.length/\zjU rs j t/\RowI V g ((List.replicate t 0++(digL rs j).drop t).reverse)/\J ((List.range (j+1)).map D) F' V/\W.heap.size<=V.heap.size/\V.heap[bx]?=some (.cells #[.slice q sizes.length c] 128 (0,0))/\RowF natE W.heap.size F' V q sizes,fun t=>sizes.length-t,0,
   ⟨.cons rfl (.cons rfl (.cons rfl (.cons (by rw [Int.ofNat_zero,Int.sub_zero];rfl) .nil))),rfl⟩,⟨Jh _,zlr _ _,by rw [hD] at fY;exact fY,hjY2,hWY,fxY,hqY⟩,?_⟩
  clear fY fxY hqY hjY2 hWY;rintro t V ⟨ht,hc,fV,hjV,hWV,fxV,hqV⟩;dsimp only at ht hc fV hjV ⊢;have hLl:(digL rs j).length=sizes.length:=by rw [zfJ,hlen]
  refine DrawE.ord [] [0,1,2,3,4,5,6,7,8,9,10,11,12,13] (by kernel_rfl) (biE (fun hi=>?_) fun hi=>?_)
  ·have hi:(0:Int)<=((sizes.length:Nat):Int)-1-(t:Nat):=dT hi;have htl:t<sizes.length:=by omega
   obtain⟨i,hit⟩:∃ i,i+t+1=sizes.length:=⟨sizes.length-1-t,by omega⟩;have hii:((sizes.length:Nat):Int)-1-(t:Nat)=(i:Nat):=by omega
   rw [hii];obtain⟨d,hd⟩:∃ d,(digL rs j)[t]?=some d:=⟨_,gE (by omega)⟩;obtain⟨n,hn⟩:∃ n,rs[t]?=some n:=⟨_,gE (by omega)⟩;have hil:i<sizes.length:=by omega
   have hsn:sizes[i]=n:=by
    have:=List.getElem?_reverse (l:=sizes) (i:=t) htl;rw [<- hrs,hn,show sizes.length-1-t=i by omega,gE hil] at this;exact (Jg this).symm
   have hnm:n∈sizes:=by rw [<- hsn];exact gM hil
   have hn1:=hm n hnm;have hn0:n≠0:=hr0 n (by rw [hrs];simpa using hnm);have hrow:=zrY hd (i:=i) (by omega);have hdn:d<n:=by
    obtain⟨A,ns,k,c1,c2,c3,c4,c5⟩:=hc
    cases ns with
    | nil=>rw [c1,Jk,Jo (by omega)] at hn;cases hn
    | cons m ns =>
     have hm':m=n:=by
      rw [c1,JQ (by omega),c2,Km] at hn;exact Jg hn
     have:=congrArg (fun l=>l[0]?) c4;simp only [List.getElem?_drop,Nat.add_zero] at this;rw [hd] at this;have:d=k%m:=Jg this;rw [this,hm'];exact Nat.mod_lt _ (by omega)
   have hrl:((List.replicate t 0++(digL rs j).drop t).reverse).length=sizes.length:=by simp;omega
   refine⟨i,rfl,hil,?_⟩;have hrc:(rowI (List.replicate t 0++(digL rs j).drop t).reverse)[i*1]?=some (i64 d):=by
    rw [Jp,Jm,hrow];rfl
   refine⟨i64 d,zac (zaa (hdr fV)) hrc,_,zac (zaa (hdr fxV)) (i:=0) rfl,?_⟩;obtain⟨bq,oq,hqe,hlq,hatq⟩:=hqV.row.at hil;subst hqe;refine⟨i,rfl,hil,i64 n,by rw [<- hsn];exact zac (zar (Ja _ V).drew (hatq i hil)) (i:=0) rfl,((n:Nat):Int)-1,zaj (by omega),biE (fun he=>?_) fun he=>?_⟩
   ·have he:(d:Int)=(n:Int)-1:=dT he;have hrs2:=zmj hd (i:=i) (by omega) 0;refine⟨i,rfl,hil,zaq k3 (hdr fV) (o:=0+i*1) (v:=i64 0) rfl rfl (by rw [Jc,hrl];omega) rfl fun V1 fV1 gV1 sV1=>⟨((sizes.length:Nat):Int)-1-((t+1:Nat):Int),(zaj (by omega)).trans (by omega),?_⟩⟩;have gV2:V.grownBy V1 (some g):=zaf (zag (Ja _ V).drew) gV1;have kV:KeepsG (fun k=>k=g) (fun _=>False) V V1:=⟨gV2.os,gV2.tape,gV2.output,gV2.size,fun k hk hf=>gV2.block k hk (fun e=>hf (by cases e;rfl)),fun k h=>h.elim⟩;have hsV:=gV2.size;refine⟨t+1,(cvE rfl rfl),⟨htl,zlt hr0 hc hn hd (by omega),?_,hJ.step _ _ _ _ hjV (StepG.grown gV2 (.inl hgn) hgF'),by omega,(gV2.block bx (hlt fxV) (by simpa using hbg)).trans fxV,⟨zbf hqV.row fun a ha=>gV2.block _ (by have:=(hqV.out a ha).1;omega) (by have:=(hqV.out a ha).1;simp;omega),hqV.out⟩⟩,zdc (by omega)⟩;show RowI V1 g _;rw [<- zos,<- hrs2];rw [Jp,JL] at fV1;refine fV1.trans ?_;unfold rowI;rw [List.map_set];rfl
   ·have he:¬ (d:Int)=(n:Int)-1:=dF he;have hstop:=zls hr0 hc hn hd (by omega);have hmore:=zlu hr0 hc hn hd (by omega) hj;have hrs2:=zmj hd (i:=i) (by omega) (d+1);refine brN (Kb (by omega)) ⟨i,rfl,hil,i64 d,zac (zaa (hdr fV)) hrc,nxI (by omega) ⟨i,rfl,hil,zaq k3 (hdr fV) (o:=0+i*1) (v:=i64 ((d+1:Nat):Int)) rfl rfl (by rw [Jc,hrl];omega) rfl fun V1 fV1 gV1 sV1=>?_⟩⟩;have gV2:V.grownBy V1 (some g):=zaf (zag (Ja _ V).drew) gV1;have hsV:=gV2.size;refine⟨(j+1,F'),(cvE rfl rfl),⟨hmore,hJ.step _ _ _ _ hjV (StepG.grown gV2 (.inl hgn) hgF'),?_,hgF',by omega,(gV2.block bx (hlt fxV) (by simpa using hbg)).trans fxV,hbF',⟨zbf hqV.row fun a ha=>gV2.block _ (by have:=(hqV.out a ha).1;omega) (by have:=(hqV.out a ha).1;simp;omega),hqV.out⟩⟩,zdc (by omega)⟩;show RowI V1 g (D (j+1));rw [hD];show RowI V1 g (digL rs (j+1)).reverse;rw [hstop,<- hrs2];rw [Jp,JL] at fV1;refine fV1.trans ?_;unfold rowI;rw [List.map_set]
  ·have hi:¬ (0:Int)<=((sizes.length:Nat):Int)-1-(t:Nat):=dF hi;have hte:t=rs.length:=by omega
   rw [hte] at hc;have he:=znC hc hj;refine brF (brE (Ka (by omega)) ?_);rw [he] at hjV;exact⟨⟨_,rfl⟩,.inl ⟨F',hJ.step _ _ _ _ hjV (.below (Ja _ V).drew)⟩⟩
 ·exact brF ⟨⟨_,rfl⟩,.inr ⟨_,F',hpre,hjY⟩⟩
end
def poG (ev:List Ev) (k:Nat):Nat->Nat:=fun i=>if i<k then zfo ev i else 0
theorem zms (ev:List Ev) (k:Nat):upd (poG ev k) k (zfo ev k)=poG ev (k+1):=by
 funext i;unfold upd poG;by_cases h:i=k
 ·rw [Kc h,Kc (by omega),h]
 ·rw [JZ h];by_cases h2:i<k
  ·rw [Kc h2,Kc (by omega)]
  ·rw [JZ h2,JZ (by omega)]
theorem zkm (ev:List Ev) (k:Nat):upd (poG ev k) k 0=poG ev k:=by
 funext i;unfold upd poG;by_cases h:i=k
 ·rw [Kc h,JZ (by omega)]
 ·rw [JZ h]
theorem zqk (ev:List Ev):poG ev ev.length=zfo ev:=by
 funext i;unfold poG
 split
 ·rfl
 ·unfold zfo;rw [Jo (by omega)]
section
variable {p:Option Addr} {cap:Nat} {ev:List Ev} {w:World}
theorem zeb (hl:SlR evE w p ev) (hn:ev.length<=48):CB 41 #[.slice p ev.length cap] w (.agg (relC (poR ev)).toArray):=by
 refine cofM 47 [.slice p ev.length cap] (.s .p (.c .p .p)) Tryz.func41 ?_;obtain⟨L,hL⟩:=nm (w.heap.size);have hbL:=hnew w (.cells (relC zat).toArray 30 (0,0));have hbb:Bw w (w.alloc (.cells (relC zat).toArray 30 (0,0))):=zba w _;have hbs:=wz w (.cells (relC zat).toArray 30 (0,0));refine⟨Unit,fun _=>⟨[(0,.slice p ev.length cap),(2,At0 L),(3,At0 (L+1))],[]⟩,fun _ X=>RelH X L zat/\RelH X (L+1) ⟨ev.length,fun _=>0⟩/\X.heap.size=L+2/\Bw w X,?_,?_⟩
 ·refine⟨relC ⟨ev.length,fun _=>0⟩,rfl,zak (X:=w.alloc (.cells (relC zat).toArray 30 (0,0))) (v := .agg (relC ⟨ev.length,fun _=>0⟩).toArray) k30 (zae _) rfl (zaw _) fun V hbV fV sV=>?_⟩;rw [hbs] at fV sV;exact⟨(),⟨.cons rfl (.cons (by rw [hL];rfl) (.cons (by rw [hL,<- hbs];rfl) .nil)),rfl⟩,by rw [hL];exact zab hbV hbL,by rw [hL];exact fV,by rw [hL];exact sV,(zst hbb hbV)⟩
 rintro _ X ⟨f0,f1,sX,hbX⟩;refine⟨Nat,fun k=>⟨[(0,.slice p ev.length cap),(2,At0 L),(3,At0 (L+1)),(10,.slice p ev.length cap),(11,i64 ev.length),(12,i64 (k:Nat))],[]⟩,
  fun k V=>k<=ev.length/\RelH V (L+1) ⟨ev.length,poG ev k⟩/\RelH V L zat/\L+1<V.heap.size/\Bw w V,fun k=>ev.length-k,0,
  (cvE rfl rfl),⟨Jh _,f1,f0,by omega,hbX⟩,?_⟩
 rintro k V ⟨hk,fV,f0V,sV,hbV⟩;dsimp only at hk fV ⊢;refine biE (fun hc=>?_) fun hc=>?_
 ·have hc:(k:Int)<(ev.length:Int):=dT hc;have hkl:k<ev.length:=by omega
  obtain⟨e,he⟩:∃ e,ev[k]=e:=⟨_,rfl⟩;have hek:ev[k]?=some e:=by rw [<- he];exact gE hkl
  obtain⟨bp,op,rfl,hlp,hat⟩:=hl.at hkl;refine⟨k,rfl,hkl,evE.enc e,rfl,by rw [<- he];exact zar hbV (hat k hkl),nL hlp hbV.size,zak (X:=V) (v := .agg (evE.enc e).toArray) k158 rfl rfl (Je.2 fun u hu=>evE.one e u hu) fun Y hbY fY sY=>?_⟩;obtain⟨b,hb⟩:=nm (V.heap.size);rw [<- hb] at fY;have eb:some (Value.pointer (some ⟨V.heap.size,0,none⟩))=some (At0 b):=by rw [hb]
  have hwY:=zst hbV hbY;have hMb:L+1<b:=by omega
  have fYM:=zab hbY fV;have fYL:=zab hbY f0V;refine⟨i64 e.th,by rw [<- hb];exact zac (zaa fY) (i:=0) rfl,biE (fun h=>?_) fun h=>?_⟩
  ·have h:e.th = -1:=dT h;have hr:zfo ev k=0:=by
    unfold zfo;rw [hek];exact Kc h
   refine nxI (by omega) ⟨k+1,(cvE rfl rfl),⟨hkl,?_,fYL,by omega,hwY⟩,zdc (by omega)⟩;rw [<- zms,hr,zkm];exact fYM
  have h:¬ e.th = -1:=dF h;have hr:zfo ev k=zmt e.th (k+1) (ev.drop (k+1)) 0:=by
   unfold zfo;rw [hek];exact JZ h
  refine nxI (by omega) ?_;refine⟨Nat×Nat,fun s=>⟨[(0,.slice (some ⟨bp,op,none⟩) ev.length cap),(2,At0 L),(3,At0 (L+1)),(4,i64 (k:Nat)),(5,At0 b),(6,i64 (s.1:Nat)),(10,.slice (some ⟨bp,op,none⟩) ev.length cap),(11,i64 ev.length),(12,i64 (k:Nat))],[]⟩,
   fun s Z=>s.1<=ev.length/\zfo ev k=zmt e.th s.1 (ev.drop s.1) s.2/\s.2<2^64/\RelH Z (L+1) ⟨ev.length,upd (poG ev k) k s.2⟩/\RelH Z L zat/\Z.heap[b]?=some (.cells (evE.enc e).toArray 158 (0,0))/\Bw w Z,fun s=>ev.length-s.1,(k+1,0),
   ⟨.cons rfl (.cons rfl (.cons rfl (.cons rfl (.cons eb (.cons rfl (.cons rfl (.cons rfl (.cons rfl .nil)))))))),rfl⟩,⟨hkl,hr,(by decide:0<2^64),by rw [zkm];exact fYM,fYL,fY,hwY⟩,?_⟩
  clear fY fYM fYL hwY hbY sY f0V fV hbV sV;rintro⟨j,s⟩ Z ⟨hj,hacc,hs,fM,fL,fb,hbZ⟩;dsimp only at hj hacc hs fM ⊢;refine biE (fun hc=>?_) fun hc=>?_
  ·have hc:(j:Int)<(ev.length:Int):=dT hc;have hjl:j<ev.length:=by omega
   have hdrop:ev.drop j=ev[j]::ev.drop (j+1):=(JE hjl).symm;rw [hdrop] at hacc;have hacc:zfo ev k=zmt e.th (j+1) (ev.drop (j+1)) (if ev[j].th=e.th then s|||2^j else s):=hacc;refine DrawE.ord [] [0,1,2,3,4,5,6,7] (by kernel_rfl) ⟨j,rfl,hjl,i64 ev[j].th,zac (zar hbZ (hat j hjl)) (i:=0) rfl,i64 e.th,zac (zaa (hdr fb)) (i:=0) rfl,?_⟩;have hslot:(relC ⟨(ev.length:Int),upd (poG ev k) k s⟩)[1+k]?=some (s64 s):=by
    have:=zhx ⟨(ev.length:Int),upd (poG ev k) k s⟩ (i:=k) (by omega);rw [this];show some (s64 (upd (poG ev k) k s k))=_;rw [zbn]
   have hdZ:Bw Z Z.drew:=(Ja _ Z).drew;refine biE (fun he=>?_) fun he=>?_
   ·have he:ev[j].th=e.th:=dT he;rw [Kc he] at hacc;refine DrawE.ord [9] [0,1,2,3,4,5,6,7,8,9] (by kernel_rfl) ⟨k,rfl,by omega,?_⟩;refine⟨s64 s,by rw [Jp,Kn];exact zac (zaa (hdr (hdr fM))) hslot,by omega,_,zbO (e:=j) (by omega),_,zb9 hs (zaH (by omega)),k,rfl,by omega,?_⟩;refine zaq k27 (hdr (hdr fM)) (o:=0+1+k*1) (v:=s64 (s|||2^j)) rfl rfl (by rw [zae];omega) rfl fun S fS gS sS=>?_;rw [JL,Jp,zfz _ (show k<48 by omega)] at fS;have gS2:Z.grownBy S (some (L+1)):=zaf (zag (Ja _ Z).drew) (zaf (zag (Ja _ _).drew) gS);refine nxI (by omega) ⟨(j+1,s|||2^j),(cvE rfl rfl),⟨hjl,hacc,Nat.or_lt_two_pow hs (zaH (by omega)),?_,(gS2.block L (hlt fL) (by simp)).trans fL,(gS2.block b (hlt fb) (by simp;omega)).trans fb,hbZ.trans (zan gS2 hbZ.size (by omega))⟩,zdc (by omega)⟩;have:upd (upd (poG ev k) k s) k (s|||2^j)=upd (poG ev k) k (s|||2^j):=by
     funext i;unfold upd
     split <;> rfl
    rw [this] at fS;exact fS
   ·have he:¬ ev[j].th=e.th:=dF he;rw [JZ he] at hacc;exact nxI (by omega) ⟨(j+1,s),(cvE rfl rfl),⟨hjl,hacc,hs,fM,fL,fb,(zst hbZ hdZ)⟩,zdc (by omega)⟩
  ·have hc:¬ (j:Int)<(ev.length:Int):=dF hc;have:j=ev.length:=by omega
   subst this;rw [List.drop_length] at hacc;have hacc:zfo ev k=s:=hacc;refine nxI (by omega) ⟨k+1,(cvE rfl rfl),⟨hkl,?_,fL,hlt fM,hbZ⟩,zdc (by omega)⟩;rw [<- zms,hacc];exact fM
 ·have hc:¬ (k:Int)<(ev.length:Int):=dF hc;obtain rfl:k=ev.length:=by omega
  rw [zqk] at fV;exact⟨relC (poR ev),zae _,zaa fV,hlt fV,zao (v := .agg (relC (poR ev)).toArray) k30 f0V rfl rfl (zaw _) ⟨relC (poR ev),zae _,zaa (zal f0V),rfl,zah hbV (by omega) _⟩⟩
end
def dedG:UInt8->List UInt8->List UInt8
 | _,[]=>[]
 | p,y::r=>if y=p then dedG p r else y::dedG y r
def ded:List UInt8->List UInt8
 | []=>[]
 | x::r=>x::dedG x r
theorem zgv:∀ (A:List UInt8) (p x:UInt8),dedG p (A++[x])=if x=(p::A).getLast (by simp) then dedG p A else dedG p A++[x]
 | [],p,x=>by
  show (if x=p then [] else [x])=_;rfl
 | y::A,p,x=>by
  show (if y=p then dedG p (A++[x]) else y::dedG y (A++[x]))=_;have hl:(p::y::A).getLast (by simp)=(y::A).getLast (by simp):=List.getLast_cons (by simp);rw [hl];show _=if x=(y::A).getLast _ then (if y=p then dedG p A else y::dedG y A) else (if y=p then dedG p A else y::dedG y A)++[x]
  by_cases h:y=p
  ·subst h;rw [Kc rfl,Kc rfl,zgv A y x]
  ·rw [JZ h,JZ h,zgv A y x]
   split <;> rfl
theorem zo6 {A:List UInt8} (h:A≠[]) (x:UInt8):ded (A++[x])=if x=A.getLast h then ded A else ded A++[x]:=by
 cases A with
 | nil=>exact Kv rfl h
 | cons y A =>
  show y::dedG y (A++[x])=_;rw [zgv];show _=if x=(y::A).getLast h then y::dedG y A else y::dedG y A++[x]
  split <;> rfl
theorem zkF {l:List UInt8} {i:Nat} (h0:0<i) (hi:i<l.length):ded (l.take (i+1))=if l[i]=l[i-1] then ded (l.take i) else ded (l.take i)++[l[i]]:=by
 rw [tsg hi];have hne:l.take i≠[]:=by
  intro e;have:=congrArg List.length e;rw [JD,JW] at this;omega
 rw [zo6 hne];have:(l.take i).getLast hne=l[i-1]:=by
  have hlen:(l.take i).length-1=i-1:=by rw [JD];omega
  simp only [List.getLast_eq_getElem,List.getElem_take,hlen]
 rw [this]
section
variable {B g cap:Nat} {l:List UInt8} {w:World}
theorem zfM {X:World} {sp:List Value} {M:List UInt8} (h:RowS zaI 5 X g sp M) {i:Nat} (hi:i<M.length):X.cell? ⟨g,0+i*1,none⟩=some (u8 M[i]):=by
 have:=zac (h.at hi) (i:=0) (v:=u8 M[i]) rfl;exact this
theorem zkJ {M:List UInt8} {i:Nat} {x:UInt8} (h:M[i]?=some x):∃ hi:i<M.length,M[i]=x:=by
 obtain⟨hi,e⟩:=Ju.1 h;exact⟨hi,e⟩
theorem zlB (ho:OwnS zaI 5 B w (some ⟨g,0,none⟩) cap l) (hn:l.length<=1000000) :
  Calls Tryz.prog 194 #[.slice (some ⟨g,0,none⟩) l.length cap] w fun e w'=>e = .returned (.slice (some ⟨g,0,none⟩) (ded l).length cap)/\OwnS zaI 5 B w' (some ⟨g,0,none⟩) cap (ded l)/\w.grownBy w' (some g):=by
 refine cofE 61 [.slice (some ⟨g,0,none⟩) l.length cap] Tryz.func194 ?_;rcases ho.inv with ⟨h,_⟩ | ⟨g',cur,hg,hB,hcur,hlc,hcm,hcs,hct⟩
 ·cases h
 simp only [Jf,Addr.mk.injEq,and_true] at hg;subst hg;have hcs:cur.size=cap:=by rw [hcs];exact Jp _
 obtain⟨sp,hsp⟩:=nm (cur.toList.drop l.length);have hct:cur.toList.take l.length=l.flatMap zaI.enc:=by rw [<- hct];congr 1;exact (Jp _).symm
 have hR:RowS zaI 5 w g sp l:=by
  unfold RowS;rw [hcur,<- hct,hsp,List.take_append_drop]
 have hspl:l.length+sp.length=cap:=by
  have h1:cur.toList.length=cap:=by rw [Array.length_toList];exact hcs
  rw [hsp,Ks,h1];omega
 refine biE (fun h=>?_) fun h=>?_
 ·have h:(l.length:Int)<2:=dT h;have e:ded l=l:=by
   match l,h with
   | [],_=>rfl
   | [x],_=>rfl
   | x::y::r,h=>simp at h;omega
  rw [e];exact⟨rfl,ho,zbz w _⟩
 have h:¬ (l.length:Int)<2:=dF h;have hl2:2<=l.length:=by omega
 refine⟨Nat,fun k=>⟨[(0,.slice (some ⟨g,0,none⟩) l.length cap),(3,i64 (k:Nat))],[]⟩,fun k X=>1<=k/\k<=l.length/\ded (l.take k)=l.take k/\RowS zaI 5 X g sp l/\w.grownBy X (some g),fun k=>l.length-k,1,
  (cvE rfl rfl),⟨Jb _,by omega,by
   cases l with
   | nil=>rfl
   | cons x r=>rfl,hR,zbz w _⟩,?_⟩
 rintro k X ⟨hk1,hkl,hdk,hRX,gX⟩;refine biE (fun hc=>?_) fun hc=>?_
 ·have hc:(k:Int)<(l.length:Int):=dT hc;have hk:k<l.length:=by omega
  refine DrawE.ord [] [0,1,2,3,4,5,6,7,8,9] (by kernel_rfl) ?_;have hRd:RowS zaI 5 X.drew g sp l:=hRX;have gd:w.grownBy X.drew (some g):=zaf gX ⟨rfl,rfl,rfl,Jb _,fun _ _ _=>rfl⟩;refine⟨k,rfl,hk,_,zfM hRd hk,((k-1:Nat):Int),(zaj (by omega)).trans (by omega),k-1,rfl,by omega,?_⟩;refine⟨_,zfM hRd (by omega),?_⟩;have hnx:=zkF (l:=l) hk1 hk;refine biE (fun he=>?_) fun he=>?_
  ·have he:l[k]=l[k-1]:=zbJ.1 (dT he);rw [Kc he] at hnx;refine⟨k,rfl,by show k<=l.length;omega,?_⟩;have hcb:zbo (some ⟨g,0,none⟩) cap k 1=some ⟨g,k,none⟩:=by
    unfold zbo;rw [JZ (by omega)];show some ((⟨g,0,none⟩:Addr).add (k*1))=_;rw [zcV,Jp,JL]
   refine⟨Nat×Nat×List UInt8,fun s=>⟨[(0,.slice (some ⟨g,0,none⟩) l.length cap),(3,i64 (s.2.1:Nat)),(4,.slice (some ⟨g,k,none⟩) (l.length-k) (cap-k)),(5,i64 (s.1:Nat))],[]⟩,
    fun s Y=>(1<=s.1/\k+s.1<=l.length)/\(s.2.1=(ded (l.take (k+s.1))).length/\s.2.1+1<=k+s.1)/\(s.2.2.length=l.length/\s.2.2.take s.2.1=ded (l.take (k+s.1))/\∀ j,s.2.1<=j->s.2.2[j]?=l[j]?)/\RowS zaI 5 Y g sp s.2.2/\w.grownBy Y (some g),fun s=>l.length-s.1,(1,k,l),
    ⟨.cons rfl (.cons rfl (.cons (by rw [<- hcb];rfl) (.cons rfl .nil))),rfl⟩,⟨⟨Jb _,by show k+1<=_;omega⟩,⟨by show k=_;rw [hnx,hdk,JD];omega,Jb _⟩,⟨rfl,by show l.take k=_;rw [hnx,hdk],fun j _=>rfl⟩,hRd,gd⟩,?_⟩
   rintro⟨m,q,M⟩ Y ⟨⟨hm1,hml⟩,⟨hq,hqm⟩,⟨hM,hMt,hMj⟩,hRY,gY⟩;dsimp only at hm1 hml hq hqm hM hMt hMj hRY ⊢;refine biE (fun hc=>?_) fun hc=>?_
   ·have hc:(m:Int)<((l.length-k:Nat):Int):=dT hc;have hi:k+m<l.length:=(by omega);have g1:M[k+m]?=some l[k+m]:=(by rw [hMj _ (by omega),gE hi]);have g0:M[k+m-1]?=some l[k+m-1]:=(by rw [hMj _ (by omega),gE (by omega)]);obtain⟨i1,e1⟩:=zkJ g1;obtain⟨i0,e0⟩:=zkJ g0;have nx:=zkF (l:=l) (i:=k+m) (by omega) hi;refine DrawE.ord [] [0,1,2,3,4,5,6,7,8,9] (by kernel_rfl) ?_;have hRYd:RowS zaI 5 Y.drew g sp M:=hRY;have gYd:w.grownBy Y.drew (some g):=zaf gY ⟨rfl,rfl,rfl,Jb _,fun _ _ _=>rfl⟩;have a1:Y.drew.cell? ⟨g,k+m*1,none⟩=some (u8 l[k+m]):=by
     have:=zfM hRYd i1;rw [e1,Jp,JL] at this;rw [Jp];exact this
    have a0:Y.drew.cell? ⟨g,k+(m-1)*1,none⟩=some (u8 l[k+m-1]):=by
     have:=zfM hRYd i0;rw [e0,Jp,JL] at this;rw [Jp,<- Nat.add_sub_assoc hm1];exact this
    refine⟨m,rfl,by omega,?_⟩;refine⟨_,a1,((m-1:Nat):Int),(zaj (by omega)).trans (by omega),m-1,rfl,by omega,?_⟩;refine⟨_,a0,biE (fun hne=>?_) fun hne=>?_⟩
    ·have hne:¬ l[k+m]=l[k+m-1]:=fun e=>by
      have hne:(!decide (((l[k+m]).toNat:Int)=((l[k+m-1]).toNat:Int)))=true:=hne;rw [e,Ka rfl] at hne;cases hne
     rw [JZ hne] at nx;refine⟨m,rfl,by omega,?_⟩;refine⟨_,a1,q,rfl,by omega,?_⟩;refine zlS k5 rfl hRYd (i:=q) (by omega) l[k+m] fun Z hRZ gZ sZ=>nxI (by omega) (nxI (by omega) ⟨(m+1,q+1,M.set q l[k+m]),(cvE rfl rfl),⟨⟨by omega,by show k+(m+1)<=_;omega⟩,⟨?_,by show q+1+1<=k+(m+1);omega⟩,⟨by rw [List.length_set];exact hM,?_,fun j hj=>?_⟩,hRZ,zaf gYd gZ⟩,zdc (by omega)⟩)
     ·show q+1=(ded (l.take (k+(m+1)))).length;rw [<- Kn,nx,lap,<- hq];rfl
     ·show (M.set q l[k+m]).take (q+1)=ded (l.take (k+(m+1)));rw [<- Kn,nx,<- hMt];rw [tsg (by rw [List.length_set];omega),List.take_set_of_le (Jb _),List.getElem_set_self]
     ·show (M.set q l[k+m])[j]?=l[j]?;have hj:q+1<=j:=hj;rw [List.getElem?_set_ne (by omega)];exact hMj j (by omega)
    ·have heq:l[k+m]=l[k+m-1]:=by
      have hne:(!decide (((l[k+m]).toNat:Int)=((l[k+m-1]).toNat:Int)))=false:=hne;have h2:decide (((l[k+m]).toNat:Int)=((l[k+m-1]).toNat:Int))=true:=(by simpa using hne);exact zbJ.1 (dT h2)
     rw [Kc heq] at nx;exact nxI (by omega) ⟨(m+1,q,M),(cvE rfl rfl),⟨⟨by omega,by show k+(m+1)<=_;omega⟩,⟨by show q=(ded (l.take (k+(m+1)))).length;rw [<- Kn,nx];exact hq,by show q+1<=k+(m+1);omega⟩,⟨hM,by show M.take q=ded (l.take (k+(m+1)));rw [<- Kn,nx];exact hMt,hMj⟩,hRYd,gYd⟩,zdc (by omega)⟩
   ·have hc:¬ (m:Int)<((l.length-k:Nat):Int):=dF hc;have hkm:k+m=l.length:=(by omega);rw [hkm,JF] at hq hMt;refine⟨q,rfl,by show q<=l.length;omega,?_⟩;have hcb2:zbo (some ⟨g,0,none⟩) cap q 1=some ⟨g,q,none⟩:=by
     unfold zbo;rw [JZ (by omega)];show some ((⟨g,0,none⟩:Addr).add (q*1))=_;rw [zcV,Jp,JL]
    have hfl:(M.flatMap zaI.enc++sp).length=cap:=by
     rw [lap,za7,hM];show l.length*1+_=_;omega
    have hcl:SatR ((Builtin.clear_ #[72] 0 #[.slice (some ⟨g,q,none⟩) (l.length-q) (cap-q)]).run Tryz.prog Y) fun _ Z=>Z.heap[g]?=some (.cells ((M.flatMap zaI.enc++sp).take q++List.replicate (l.length-q) (u8 0)++(M.flatMap zaI.enc++sp).drop (q+(l.length-q))).toArray 5 (0,0))/\Y.grownBy Z (some g) :=
     zns Tryz.underlying72 k5 rfl rfl (by omega) hRY (by show q+(l.length-q)<=(M.flatMap zaI.enc++sp).length;rw [hfl];omega) fun Z fZ gZ sZ=>⟨fZ,gZ⟩
    obtain⟨v,Z,hrun,fZ,gZ⟩:=hcl;refine⟨v,Z,by rw [hcb2];exact hrun,?_⟩;refine⟨q,rfl,by show q<=cap;omega,?_⟩;rw [<- hq];refine⟨by show Ending.returned (Value.slice (zbo (some ⟨g,0,none⟩) cap 0 1) (q-0) (cap-0))=_;rw [zdQ];rfl,?_,zaf gY gZ⟩;unfold OwnS World.ownsRow;refine⟨by rw [za7],.inr ⟨g,cap,_,rfl,hB,fZ,by omega,hcm,?_,?_⟩⟩
    ·show (List.length _)=cap*1;rw [lap,lap,JD,List.length_replicate,Ks,hfl];omega
    ·rw [<- hq];show ((M.flatMap zaI.enc++sp).take q++List.replicate (l.length-q) (u8 0)++(M.flatMap zaI.enc++sp).drop (q+(l.length-q))).take (q*1)=_;rw [Jp,Jr,JT (by rw [JD,hfl];omega),List.take_take,Nat.min_self,JT (by rw [za7,hM];show q<=l.length*1;omega),<- hMt];have:=List.take_append_drop q M;have e2:M.flatMap zaI.enc=(M.take q).flatMap zaI.enc++(M.drop q).flatMap zaI.enc:=(by rw [<- List.flatMap_append,List.take_append_drop]);rw [e2,List.take_left' (by rw [za7,JD];show min q M.length*1=q;omega)]
  ·have he:¬ l[k]=l[k-1]:=fun e=>(dF he) (by rw [e]);rw [JZ he,hdk] at hnx;exact nxI (by omega) ⟨k+1,(cvE rfl rfl),⟨by omega,hk,by rw [hnx,tsg hk],hRd,gd⟩,zdc (by omega)⟩
 ·have hc:¬ (k:Int)<(l.length:Int):=dF hc;obtain rfl:k=l.length:=by omega
  rw [JF] at hdk;rw [hdk];refine⟨rfl,?_,gX⟩;unfold OwnS World.ownsRow;refine⟨by rw [za7],.inr ⟨g,cap,_,rfl,hB,hRX,by omega,hcm,?_,?_⟩⟩
  ·show (l.flatMap zaI.enc++sp).length=cap*1;rw [lap,za7];show l.length*1+_=_;omega
  ·exact List.take_left' (za7 l)
end
def prE:Enc (Nat×Nat):=⟨fun x=>[u8 (UInt8.ofNat x.1),u8 (UInt8.ofNat x.2)],2,fun _=>rfl,by decide,fun a u hu=>by
 simp only [JV,List.not_mem_nil,or_false] at hu;rcases hu with rfl | rfl <;> rfl⟩
def zil:Enc Nat:=⟨fun x=>[s32 x],1,fun _=>rfl,by decide,fun a u hu=>by
 simp only [JV,List.not_mem_nil,or_false] at hu;subst hu;rfl⟩
theorem zrN {s:Nat} {w:World} (hT:Tz32M w) (h0:s≠0) (h:s<2^32):Calls Tryz.prog 267 #[s32 s] w fun e w'=>e = .returned (i64 (ctz s:Nat))/\w=w':=by
 refine cofE 14 [s32 s] Tryz.func267 ?_;obtain⟨h2,h3⟩:=zhd h0 h;obtain⟨t1,t2⟩:=zn7 h3;refine brN (Kb (fun e=>h0 (by omega))) ⟨((2^32-s:Nat):Int),by unfold IntKind.wrap;simp only [IntKind.bits,IntKind.signed,JJ,JC,if_false];omega,?_⟩;refine⟨((2^ctz s:Nat):Int),(zlL (a:=s) (b:=2^32-s) h (by omega)).trans (by rw [h2]),?_⟩;refine⟨((2^ctz s*125613361%4294967296:Nat):Int),by
  have e:(((2^ctz s:Nat):Int)*125613361)=((2^ctz s*125613361:Nat):Int):=by rw [Int.natCast_mul];rfl
  rw [e];generalize 2^ctz s*125613361=n;unfold IntKind.wrap;simp only [IntKind.bits,IntKind.signed,JJ,JC,if_false];omega,?_⟩
 refine⟨by decide,((2^ctz s*125613361%4294967296/2^27:Nat):Int),by
  generalize 2^ctz s*125613361%4294967296=n;show (n:Int).fdiv (2^(min (Int.toNat (27:Int)) IntKind.u32.bits))=_;rw [show min (Int.toNat (27:Int)) IntKind.u32.bits=27 from rfl,Int.fdiv_eq_ediv_of_nonneg _ (by decide)];omega,?_⟩
 refine⟨_,rfl,t1,?_⟩;have hv:(zkX.map u8)[2^ctz s*125613361%4294967296/2^27]?=some (u8 (UInt8.ofNat (ctz s))):=by rw [Jm,t2];rfl
 refine⟨u8 (UInt8.ofNat (ctz s)),by rw [Jp];exact zac hT hv,?_⟩;have e:(UInt8.ofNat (ctz s)).toNat=ctz s:=by rw [UInt8.toNat_ofNat'];omega
 exact⟨(ctz s:Int),by rw [e];exact zaj (by omega),rfl,rfl⟩
def zca:Nat->List Nat->List (Nat×Nat)
 | _,[]=>[]
 | i,s::r=>(els s).map (fun a=>(a,i))++zca (i+1) r
theorem zgU (f:Nat->Nat):∀ (n i:Nat),zca i ((List.range' i n).map f)=(List.range' i n).flatMap fun i=>(els (f i)).map fun a=>(a,i)
 | 0,i=>rfl
 | n+1,i=>by
  rw [List.range'_succ,List.map_cons,Kj];show (els (f i)).map _++zca (i+1) _=_;rw [zgU f n (i+1)]
theorem zfZ (f:Nat->Nat) (n:Nat):zca 0 ((List.range n).map f)=ziC f n:=by
 unfold ziC;rw [List.range_eq_range'];exact zgU f n 0
theorem zlc (l:List Nat) (x:Nat):∀ i,zca i (l++[x])=zca i l++(els x).map (fun a=>(a,i+l.length)):=by
 induction l with
 | nil=>intro i;show (els x).map _++[]=_;rw [Jk];rfl
 | cons y r ih =>
  intro i;show (els y).map _++zca (i+1) (r++[x])=((els y).map _++zca (i+1) r)++_;rw [ih,Jr,Jq];congr 3;funext a;congr 1;omega
theorem ziB:∀ (l:List Nat) (i:Nat),(zca i l).length<=64*l.length
 | [],_=>Jh _
 | x::r,i=>by
  show ((els x).map _++zca (i+1) r).length<=_;rw [lap,Jc,Jq];have h1:=ziB r (i+1);have h2:=zgs x;omega
section
variable {p:Option Addr} {cap:Nat} {l:List Nat} {w:World}
theorem zjn (hl:SlR zil w p l) (hn:l.length<=24) (hb:∀ x∈l,x<2^32) (hT:Tz32M w) :
  Calls Tryz.prog 230 #[.slice p l.length cap] w fun e w'=>(∃ q c,e = .returned (.slice q (zca 0 l).length c)/\OwnS prE 326 w.heap.size w' q c (zca 0 l))/\Bw w w':=by
 refine cofE 30 [.slice p l.length cap] Tryz.func230 ?_;refine⟨Nat×Option Addr×Nat,fun s=>⟨[(3,.slice s.2.1 (zca 0 (l.take s.1)).length s.2.2),(6,.slice p l.length cap),(7,i64 l.length),(8,i64 (s.1:Nat))],[]⟩,
  fun s X=>s.1<=l.length/\OwnS prE 326 w.heap.size X s.2.1 s.2.2 (zca 0 (l.take s.1))/\Bw w X,fun s=>l.length-s.1,(0,none,0),
  (cvE rfl rfl),⟨Jh _,OwnS.nil,Ja _ _⟩,?_⟩
 rintro⟨k,q,c⟩ X ⟨hk,ho,hbX⟩;dsimp only at hk ho ⊢;refine biE (fun hc=>?_) fun hc=>?_
 ·have hc:(k:Int)<(l.length:Int):=dT hc;have hkl:k<l.length:=by omega
  obtain⟨b,o,hp,hlt',hat⟩:=(hl.below hbX).at hkl;have ep:some (Value.slice p l.length cap)=some (Value.slice (some ⟨b,o,none⟩) l.length cap):=by rw [hp]
  subst hp;refine⟨k,rfl,hkl,s32 l[k],by have:=zac (hat k hkl) (i:=0) (v:=s32 l[k]) rfl;exact this,?_⟩;have hlk:=hb _ (gM hkl);have htl:(l.take k).length=k:=by rw [JD];omega
  have hpl:=ziB (l.take k) 0;have tk:l.take (k+1)=l.take k++[l[k]]:=tsg hkl;refine⟨Nat×List (Nat×Nat)×Option Addr×Nat,fun s=>⟨[(3,.slice s.2.2.1 s.2.1.length s.2.2.2),(4,i64 (k:Nat)),(5,s32 s.1),(6,.slice (some ⟨b,o,none⟩) l.length cap),(7,i64 l.length),(8,i64 (k:Nat))],[]⟩,
   fun s Y=>(zca 0 (l.take (k+1))=s.2.1++(els s.1).map (fun a=>(a,k))/\s.1<2^32/\s.2.1.length+(els s.1).length<=64*(k+1))/\OwnS prE 326 w.heap.size Y s.2.2.1 s.2.2.2 s.2.1/\Bw w Y,fun s=>s.1,(l[k],zca 0 (l.take k),q,c),
   (cvE rfl rfl),⟨⟨by rw [tk,zlc,htl,JL],hlk,by have:=zgs l[k];show (zca 0 (l.take k)).length+(els l[k]).length<=_;omega⟩,ho,hbX⟩,?_⟩
  rintro⟨s,m,q,c⟩ Y ⟨⟨he,hs,hlen⟩,ho,hbY⟩;dsimp only at he hs hlen ho ⊢;refine biE (fun hc=>?_) fun hc=>?_
  ·have hc:(!decide ((s:Int)=0))=true:=hc;have h0:s≠0:=fun e=>by
    subst e;exact Kv hc (by decide)
   have hs64:s<2^64:=nL hs (by decide);obtain⟨e1,e2,_,_⟩:=zbA h0 hs64;obtain⟨_,hc32⟩:=zhd h0 hs;rw [e1] at hlen;refine cmo (zrN (hT.below hbY) h0 hs) ?_;rintro e _ ⟨rfl,rfl⟩;refine⟨_,w8N _,_,w8N _,prE.enc (ctz s,k),rfl,⟨by decide,by decide,rfl⟩,prE.enc (ctz s,k),zcS rfl rfl,?_⟩;have hba:Bw Y (Y.alloc (.cells (prE.enc (ctz s,k)).toArray 326)):=zba _ _;simp only [Jq] at hlen;refine zbp (E:=prE) (T:=326) (B:=w.heap.size) (l:=m) (news:=[(ctz s,k)]) (cap:=c) (m:=1) Tryz.underlying239 k326 rfl rfl rfl (ho.below hba) rfl (za2 prE (ctz s,k)) (by have:=hbY.size;have:=hba.size;omega) (by omega) (by show (m.length+1)*2<=_;omega) ?_;intro p2 c2 Z oZ gZ hbZ hat2;refine⟨((s-1:Nat):Int),(w32 (a:=(s:Int)-1) (by omega)).trans (by omega),((rest s:Nat):Int),zlL (a:=s) (b:=s-1) hs (by omega),(rest s,m++[(ctz s,k)],p2,c2),(cvE rfl rfl),⟨⟨?_,by show rest s<_;omega,?_⟩,oZ,((zst hbY hba)).trans hbZ⟩,e2⟩
   ·rw [he,e1,List.map_cons,Jr];rfl
   ·simp only [lap,Jq,JW];omega
  ·have hc:(!decide ((s:Int)=0))=false:=hc;have h0:s=0:=by
    have h1:decide ((s:Int)=0)=true:=(by simpa using hc);exact Int.ofNat.inj (dT h1)
   subst h0;rw [zdy,List.map_nil,Jk] at he;exact nxI (by omega) ⟨(k+1,q,c),⟨.cons (by rw [he];rfl) (.cons rfl (.cons rfl (.cons rfl .nil))),rfl⟩,⟨hkl,by show OwnS prE _ _ _ _ _ (zca 0 (l.take (k+1)));rw [he];exact ho,hbY⟩,zdc (by omega)⟩
 ·have hc:¬ (k:Int)<(l.length:Int):=dF hc;obtain rfl:k=l.length:=by omega
  rw [JF] at ho;refine⟨⟨q,c,by rw [JF];rfl,ho⟩,hbX⟩
theorem zja {p:Option Addr} {cap:Nat} {l:List Ev} {w:World} (hl:SlR evE w p l) (hn:l.length<=100000) (hc:p=none->cap=0) :
  Calls Tryz.prog 143 #[.slice p l.length cap] w fun e w'=>(∃ q c,e = .returned (.slice q l.length c)/\OwnS evE 158 w.heap.size w' q c l)/\Bw w w':=by
 refine cofE 8 [.slice p l.length cap] Tryz.func143 ?_;refine⟨_,fun w=>eqlS Tryz.underlying25 _ _ p l.length cap w,?_⟩
 cases p with
 | none =>
  refine brT ?_;have e:=hl.none;subst e;exact⟨⟨none,0,rfl,OwnS.nil⟩,Ja _ _⟩
 | some a =>
  refine brF ⟨⟨by decide,by decide,rfl⟩,[],rfl,?_⟩;have hb0:Bw w (w.alloc (.cells #[] 158)):=zba w _;refine zia (E:=evE) (T:=158) (B:=w.heap.size) (l:=[]) (news:=l) (cap:=0) Tryz.underlying25 k158 rfl rfl rfl zhA rfl (hl.below hb0) (fun h=>by cases h) hb0.size (by simp;omega) (by show (0+l.length)*16<=_;omega) ?_;intro p' cap' w' ho hg hbw;exact⟨⟨p',cap',rfl,ho⟩,hb0.trans hbw⟩
end
theorem zfa {p:Option Addr} {cap:Nat} {l:List UInt8} {w:World} (hl:SlR zaI w p l) (h1:1<=l.length) (h12:l.length<=12) (hs:srt8 l=true) :
  Calls Tryz.prog 135 #[.slice p l.length cap] w fun e w'=>(∃ q c,e = .returned (.slice q (ded l).length c)/\OwnS zaI 5 w.heap.size w' q c (ded l))/\Bw w w':=by
 refine cofE 9 [.slice p l.length cap] Tryz.func135 ?_;refine cmo (zkT hl (by omega) (fun e=>by subst e;have:=hl.none;subst this;simp at h1)) ?_;rintro e X ⟨⟨q,c,rfl,ho⟩,hbX⟩;rcases ho.inv with ⟨_,_,h0⟩ | ⟨g,cur,rfl,hB,_⟩
 ·rw [h0] at h1;simp at h1
 refine cmo (zrv ho.row h12 hs) ?_;rintro e Y ⟨rfl,hbY⟩;have hbY':Bw X Y:=⟨hbY.os,hbY.tape,hbY.output,hbY.size,hbY.block⟩;refine cmo (zlB (ho.below hbY) (by omega)) ?_;rintro e Z ⟨rfl,oZ,gZ⟩;have hwX:=hbX.size;exact⟨⟨_,_,rfl,oZ⟩,(hbX.trans (hbY.mono hwX)).trans (zan gZ (Jj hwX hbY.size) hB)⟩
def pthC (P:PathD) (q1:Option Addr) (c1:Nat) (q2:Option Addr) (c2:Nat) (q3:Option Addr) (c3:Nat) (q4:Option Addr) (c4:Nat):List Value :=
 [.slice q1 P.ev.length c1,.slice q2 P.data.length c2,.slice q3 P.ctrl.length c3,.slice q4 P.rmw.length c4]++seg 8 (fun i=>u8 (P.regs i))
theorem zkj (P:PathD) (q1 c1 q2 c2 q3 c3 q4 c4):(pthC P q1 c1 q2 c2 q3 c3 q4 c4).all Value.oneCell'=true:=by
 unfold pthC;rw [List.all_append,zdg fun _=>rfl];rfl
theorem zkk (P:PathD) (q1 c1 q2 c2 q3 c3 q4 c4):(pthC P q1 c1 q2 c2 q3 c3 q4 c4).length=12:=by
 unfold pthC;rw [lap,zaA];rfl
def RunB (R:RunD):Prop:=∀ i,i<R.many->R.data i<2^32/\R.ctrl i<2^32/\R.att i<2^32
section
variable {R:RunD} {b:Nat} {w:World}
theorem zl4 {X:World} {o n m:Nat} {f:Nat->Nat} (hb:b<X.heap.size) (h:∀ i,i<n->X.cell? ⟨b,o+i,none⟩=some (s32 (f i))) (hm:m<=n):SlR zil X (some ⟨b,o,none⟩) ((List.range m).map f):=by
 refine .inr ⟨b,o,rfl,hb,fun i hi=>?_⟩;have hi:i<m:=by simpa using hi
 rw [Ke,List.getElem_range];refine za8 fun j v hv=>?_
 cases j with
 | zero =>
  have hv:s32 (f i)=v:=by simpa [zil] using hv
  rw [<- hv];show X.cell? ⟨b,o+i*1+0,none⟩=_;rw [Jp,Nat.add_zero];exact h i (by omega)
 | succ j=>simp [zil] at hv
theorem zq1 {X:World} {m:Nat} (f:RunH X b R) (hm:m<=24):SlR evE X (some ⟨b,19,none⟩) ((List.range m).map R.ev):=by
 have hc:=zl9 f;refine .inr ⟨b,19,rfl,hlt f,fun i hi=>?_⟩;have hi:i<m:=by simpa using hi
 rw [Ke,List.getElem_range,<- zpK R.ev (show i<24 by omega)];exact zaD hc
theorem zr8 (f:RunH w b R) (hm:R.many<=24) (hB:RunB R) (hT:Tz32M w) :
  Calls Tryz.prog 197 #[AtR b] w fun e w'=>(∃ q1 c1 q2 c2 q3 c3 q4 c4,e = .returned (.agg (pthC (ze0 R) q1 c1 q2 c2 q3 c3 q4 c4).toArray)/\OwnS evE 158 w.heap.size w' q1 c1 (ze0 R).ev/\OwnS prE 326 w.heap.size w' q2 c2 (ze0 R).data/\OwnS prE 326 w.heap.size w' q3 c3 (ze0 R).ctrl/\OwnS prE 326 w.heap.size w' q4 c4 (ze0 R).rmw)/\Bw w w':=by
 refine cofE 44 [AtR b] Tryz.func197 ?_;obtain⟨Z0,hZ0⟩:∃ Z0:List Value,Z0=pthC ⟨[],[],[],[],fun _=>0⟩ none 0 none 0 none 0 none 0:=⟨_,rfl⟩;have f0:=hnew w (.cells Z0.toArray 241);have hb0:Bw w (w.alloc (.cells Z0.toArray 241)):=zba w _;obtain⟨X,hX⟩:=nm ((w.alloc (.cells Z0.toArray 241)).drew);have hbX:Bw w X:=by rw [hX];exact hb0.drew
 have f0X:X.heap[w.heap.size]?=some (.cells Z0.toArray 241 (0,0)):=by rw [hX];exact f0
 have fX:=zab hbX f;have hX':(w.alloc (.cells (#[.slice none 0 0,.slice none 0 0,.slice none 0 0,.slice none 0 0,.int .u8 0,.int .u8 0,.int .u8 0,.int .u8 0,.int .u8 0,.int .u8 0,.int .u8 0,.int .u8 0]:Array Value) 241)).drew=X:=by rw [hX,hZ0];rfl
 refine DrawE.ord [41] [0,1,2,3,4,5,6,7,9,10,11,12,13,14,15,16,18,19,20,21,22,23,24,25,27,28,29,30,31,32,33,34,36,37,38,39,8,17,26,35,40,41] (by kernel_rfl) ?_;have cut:∀ (o e:Nat),Value.slice (zbo (some ⟨b,0+o,none⟩) 24 0 e) (R.many-0) (24-0) = .slice (some ⟨b,o,none⟩) R.many 24:=fun o e=>by rw [zdQ,JL];rfl
 have lm:∀ {α:Type} (g:Nat->α),((List.range R.many).map g).length=R.many:=fun g=>by rw [Jc,Kf]
 have hbx:=hlt fX;have sd:∀ {o:Nat} {g:Nat->Nat},(∀ i,i<24->(runC R)[o+i]?=some (s32 (g i)))->SlR zil X (some ⟨b,o,none⟩) ((List.range R.many).map g):=fun {o g} h=>zl4 hbx (fun i hi=>by
  have:=zac (zaa fX) (h i hi);rw [JL] at this;exact this) hm
 rw [hX'];refine⟨_,zac (zaa fX) (i:=18) (zdi R),R.many,rfl,hm,_,zac (zaa fX) (i:=18) (zdi R),R.many,rfl,hm,_,zac (zaa fX) (i:=18) (zdi R),R.many,rfl,hm,_,zac (zaa fX) (i:=18) (zdi R),R.many,rfl,hm,seg 8 (fun i=>u8 (R.regs i)),zaA _ _,?_,hbx,?_⟩
 ·have:=zaD (n:=1) (m:=8) (zaa fX);have e:((runC R).toArray.toList.drop 1).take 8=seg 8 (fun i=>u8 (R.regs i)):=by
   show (seg 8 (fun i=>u8 (R.regs i))++_).take 8=_;exact List.take_left' (zaA _ _)
  rw [e] at this;exact this
 have c1:=zja (w:=X) (cap:=24) (zq1 fX hm) (by rw [lm];omega) (fun h=>by cases h);rw [lm,<- cut 19 7] at c1;refine cmo c1 ?_;rintro e Y1 ⟨⟨q1,k1,rfl,o1⟩,hb1⟩;refine⟨hb1,?_⟩;have hw1:=zst hbX hb1;have c2:=zjn (w:=Y1) (cap:=24) ((sd (o:=187) (g:=R.data) fun i hi=>zon R hi).below hb1) (by rw [lm];exact hm) (fun x hx=>by
  obtain⟨i,hi,rfl⟩:=JR.1 hx;exact (hB i (Jt.1 hi)).1) (hT.below hw1)
 rw [lm,<- cut 187 1,zfZ] at c2;refine cmo c2 ?_;rintro e Y2 ⟨⟨q2,k2,rfl,o2⟩,hb2⟩;refine⟨hb2,?_⟩;have hx2:=zst hb1 hb2;have hw2:=zst hbX hx2;have c3:=zjn (w:=Y2) (cap:=24) ((sd (o:=211) (g:=R.ctrl) fun i hi=>zoo R hi).below hx2) (by rw [lm];exact hm) (fun x hx=>by
  obtain⟨i,hi,rfl⟩:=JR.1 hx;exact (hB i (Jt.1 hi)).2.1) (hT.below hw2)
 rw [lm,<- cut 211 1,zfZ] at c3;refine cmo c3 ?_;rintro e Y3 ⟨⟨q3,k3,rfl,o3⟩,hb3⟩;refine⟨hb3,?_⟩;have hx3:=zst hx2 hb3;have hw3:=zst hbX hx3;have c4:=zjn (w:=Y3) (cap:=24) ((sd (o:=235) (g:=R.att) fun i hi=>zqc R hi).below hx3) (by rw [lm];exact hm) (fun x hx=>by
  obtain⟨i,hi,rfl⟩:=JR.1 hx;exact (hB i (Jt.1 hi)).2.2) (hT.below hw3)
 rw [lm,<- cut 235 1,zfZ] at c4;refine cmo c4 ?_;rintro e Y4 ⟨⟨q4,k4,rfl,o4⟩,hb4⟩;refine⟨hb4,?_⟩;have hx4:=zst hx3 hb4;have hw4:=zst hbX hx4;have le1:(ze0 R).ev.length=R.many:=lm _;obtain⟨cs,hcs⟩:=nm (pthC (ze0 R) q1 k1 q2 k2 q3 k3 q4 k4);refine⟨cs,by rw [hcs];unfold pthC;rw [le1];rfl,?_⟩;have f4:=zab hx4 f0X;have hone:cs.all Value.oneCell'=true:=by rw [hcs];exact zkj ..
 have hlen:cs.length=12:=by rw [hcs];exact zkk ..
 refine zao (v := .agg cs.toArray) k241 f4 hlen (by rw [hZ0];rfl) hone ?_;have f5:=zal (cs':=(Value.agg cs.toArray).cells) f4;have hs:w.heap.size<=X.heap.size:=hbX.size;have keep:∀ {α:Type} {E:Enc α} {T B c:Nat} {p:Option Addr} {l:List α},X.heap.size<=B->OwnS E T B Y4 p c l->OwnS E T w.heap.size (Y4.setRow w.heap.size (Value.agg cs.toArray).cells) p c l:=fun {α E T B c p l} hB o=>by
  refine OwnS.lower (o.kept (zaL Y4 w.heap.size _) fun g hg e=>?_) (Jj hs hB);rcases o.inv with ⟨h,_⟩ | ⟨g',cur,h,h2,_⟩
  ·rw [h] at hg;cases hg
  ·rw [h] at hg;simp only [Jf,Addr.mk.injEq,and_true] at hg e;have:=hlt f0X;omega
 have n1:=hb1.size;have n2:=hb2.size;have n3:=hb3.size;refine⟨cs,hlen,zaa f5,⟨q1,k1,q2,k2,q3,k3,q4,k4,by rw [hcs];rfl,keep (Jb _) (((o1.below hb2).below hb3).below hb4),keep (by omega) ((o2.below hb3).below hb4),keep (by omega) (o3.below hb4),keep (by omega) o4⟩,zah hw4 (Jb _) _⟩
end
theorem zbK (c : UInt8) (w : World) : Calls Tryz.prog 239 #[u8 c] w fun e w' => e = .returned (i64 (clsL c)) ∧ w = w' := by
  refine zhh (S := sg 47) (sgOk _) (args := [u8 c]) (.s .p (.c .p .p)) Tryz.func239 rfl rfl (JO rfl) rfl ?_
  refine ⟨Unit, fun _ => ⟨[(0, u8 c)], []⟩, fun _ X => ziX c = false ∧ zjD c = false ∧ w = X, ?_, ?_⟩
  · repeat first
      | exact ⟨(), ⟨.cons rfl .nil, rfl⟩, by unfold ziX; simp only [*]; rfl, by unfold zjD; simp only [*]; rfl, rfl⟩
      | exact ⟨by
          first
          | (have e : ziX c = true := by unfold ziX; simp only [*]; rfl
             unfold clsL; rw [e]; rfl)
          | (have e1 : ziX c = false := by unfold ziX; simp only [*]; rfl
             have e2 : zjD c = true := by unfold zjD; simp only [*]; rfl
             unfold clsL; rw [e1, e2]; rfl), rfl⟩
      | refine brT ?_
      | refine brF ?_
      | refine brE (by assumption) ?_
      | refine brN (by assumption) ?_
      | refine Jn (fun h => ?_) (fun h => ?_)
  rintro _ _ ⟨h1, h2, rfl⟩
  have key : clsL c = (bif eqB c 32 || eqB c 9 then 1 else bif eqB c 10 then 2 else bif eqB c 95 then 5 else bif eqB c 35 then 7 else bif zoL c then 6 else 0) := by unfold clsL; rw [h1, h2]; rfl
  rw [key]
  clear key h1 h2
  unfold zoL
  refine Jn (fun h => ?_) (fun h => ?_)
  · have h : eqB c 32 = true := h
    refine brE h ?_
    exact ⟨by rw [h]; rfl, rfl⟩
  have h32 : eqB c 32 = false := h
  refine Jn (fun h => ?_) (fun h => ?_)
  · have h : eqB c 9 = true := h
    exact ⟨by rw [h32, h]; rfl, rfl⟩
  have h9 : eqB c 9 = false := h
  refine Jn (fun h => ?_) (fun h => ?_)
  · have h : eqB c 10 = true := h
    exact ⟨by rw [h32, h9, h]; rfl, rfl⟩
  have h10 : eqB c 10 = false := h
  refine Jn (fun h => ?_) (fun h => ?_)
  · have h : eqB c 95 = true := h
    exact ⟨by rw [h32, h9, h10, h]; rfl, rfl⟩
  have h95 : eqB c 95 = false := h
  refine Jn (fun h => ?_) (fun h => ?_)
  · have h : eqB c 35 = true := h
    exact ⟨by rw [h32, h9, h10, h95, h]; rfl, rfl⟩
  have h35 : eqB c 35 = false := h
  rw [h32, h9, h10, h95, h35]
  refine Jn (fun h => ?_) (fun h => ?_)
  · have h : eqB c 61 = true := h
    refine brE h ?_
    exact ⟨by rw [h]; rfl, rfl⟩
  have h61 : eqB c 61 = false := h
  refine Jn (fun h => ?_) (fun h => ?_)
  · have h : eqB c 43 = true := h
    refine brE h ?_
    exact ⟨by rw [h61, h]; rfl, rfl⟩
  have h43 : eqB c 43 = false := h
  refine Jn (fun h => ?_) (fun h => ?_)
  · have h : eqB c 45 = true := h
    refine brE h ?_
    exact ⟨by rw [h61, h43, h]; rfl, rfl⟩
  have h45 : eqB c 45 = false := h
  refine Jn (fun h => ?_) (fun h => ?_)
  · have h : eqB c 94 = true := h
    refine brE h ?_
    exact ⟨by rw [h61, h43, h45, h]; rfl, rfl⟩
  have h94 : eqB c 94 = false := h
  refine Jn (fun h => ?_) (fun h => ?_)
  · have h : eqB c 38 = true := h
    refine brE h ?_
    exact ⟨by rw [h61, h43, h45, h94, h]; rfl, rfl⟩
  have h38 : eqB c 38 = false := h
  refine Jn (fun h => ?_) (fun h => ?_)
  · have h : eqB c 124 = true := h
    refine brE h ?_
    exact ⟨by rw [h61, h43, h45, h94, h38, h]; rfl, rfl⟩
  have h124 : eqB c 124 = false := h
  refine Jn (fun h => ?_) (fun h => ?_)
  · have h : eqB c 33 = true := h
    refine brE h ?_
    exact ⟨by rw [h61, h43, h45, h94, h38, h124, h]; rfl, rfl⟩
  have h33 : eqB c 33 = false := h
  refine Jn (fun h => ?_) (fun h => ?_)
  · have h : eqB c 40 = true := h
    refine brE h ?_
    exact ⟨by rw [h61, h43, h45, h94, h38, h124, h33, h]; rfl, rfl⟩
  have h40 : eqB c 40 = false := h
  refine Jn (fun h => ?_) (fun h => ?_)
  · have h : eqB c 41 = true := h
    refine brE h ?_
    exact ⟨by rw [h61, h43, h45, h94, h38, h124, h33, h40, h]; rfl, rfl⟩
  have h41 : eqB c 41 = false := h
  refine Jn (fun h => ?_) (fun h => ?_)
  · have h : eqB c 58 = true := h
    refine brE h ?_
    exact ⟨by rw [h61, h43, h45, h94, h38, h124, h33, h40, h41, h]; rfl, rfl⟩
  have h58 : eqB c 58 = false := h
  refine Jn (fun h => ?_) (fun h => ?_)
  · have h : eqB c 60 = true := h
    exact ⟨by rw [h61, h43, h45, h94, h38, h124, h33, h40, h41, h58, h]; rfl, rfl⟩
  have h60 : eqB c 60 = false := h
  exact ⟨by rw [h61, h43, h45, h94, h38, h124, h33, h40, h41, h58, h60]; rfl, rfl⟩
theorem zkz (c : UInt8) (w : World) : Calls Tryz.prog 241 #[u8 c] w fun e w' => e = .returned (.bool (zaY c)) ∧ w = w' := by
  refine za4 (S := sg 16) (sgOk _) (args := [u8 c]) Tryz.func241 rfl rfl (JO rfl) rfl ?_
  refine Calls.mono (zbK c w) ?_
  rintro e _ ⟨rfl, rfl⟩
  have e3 : ∀ k : Nat, decide ((clsL c : Int) = (k : Int)) = decide (clsL c = k) := fun k => by rw [Kd]; omega
  refine Jn (fun h => ?_) (fun h => ?_)
  · have h : decide (clsL c = 3) = true := (e3 3).symm.trans h
    refine Jn (fun _ => ?_) (fun h => by cases h)
    exact ⟨rb (by unfold zaY; rw [h]; rfl), rfl⟩
  have h3 : decide (clsL c = 3) = false := (e3 3).symm.trans h
  refine Jn (fun h => ?_) (fun h => ?_)
  · have h : decide (clsL c = 4) = true := (e3 4).symm.trans h
    exact ⟨rb (by unfold zaY; rw [h3, h]; rfl), rfl⟩
  have h4 : decide (clsL c = 4) = false := (e3 4).symm.trans h
  exact ⟨rb (by unfold zaY; rw [h3, h4]; exact e3 5), rfl⟩
theorem zdh {p:UInt8->Bool} {s:List UInt8} {k:Nat} (h:k<s.length):zcl p (s.drop k)=if p s[k] then zcl p (s.drop (k+1))+1 else 0:=by
 rw [JH h];rfl
theorem zhw {p:UInt8->Bool} {s:List UInt8} {k:Nat} (h:s.length<=k):zcl p (s.drop k)=0:=by
 rw [JI h];rfl
theorem zmY {p:UInt8->Bool} (s:List UInt8) (k:Nat) (h:k<=s.length):k+zcl p (s.drop k)<=s.length:=by
 have:=zkb p (s.drop k);rw [Ks] at this;omega
theorem zdL {a b:Nat}:decide ((a:Int)=(b:Int))=decide (a=b):=by rw [Kd];omega
theorem zfb {s:List UInt8} {k:Nat} (h:k<s.length):(bs s).data.toList[k]?=some s[k]:=by
 show s[k]?=_;exact gE h
theorem zkp {g a:Nat} {s:List UInt8} {w:World} (h:zav w ⟨g,0,none⟩ [strV s,i64 a]) :
  CB 283 #[At0 g] w (.bool (decide (s.length<=a))):=by
 refine cofE 13 [At0 g] Tryz.func283 ?_;refine DrawE.ord [] [0,1,2,3,4,5,6,7,8,9,10] (by kernel_rfl) ?_;have h:zav w.drew ⟨g,0,none⟩ [strV s,i64 a]:=zaB rfl h;refine⟨_,zac h (i:=1) rfl,_,zac h (i:=0) rfl,rb ?_,(Ja _ _).drew⟩;show decide ((s.length:Int)<=(a:Int))=_;rw [Kd];omega
theorem znJ {g a:Nat} {s:List UInt8} {w:World} (h:zav w ⟨g,0,none⟩ [strV s,i64 a]) (hg:g<w.heap.size) :
  CB 281 #[At0 g] w (.bool (zcb s a)):=by
 refine cofE 18 [At0 g] Tryz.func281 ?_;refine DrawE.ord [] [0,1,2,3,4,5,6,7,8,9,10,11,12,13,14,15] (by kernel_rfl) ?_;have h:zav w.drew ⟨g,0,none⟩ [strV s,i64 a]:=zaB rfl h;refine cmo (zkp h) ?_;rintro e V ⟨rfl,hb⟩;refine⟨hb,?_⟩;have hw:=(Ja w.heap.size w).drew.trans hb;have hV:=zbb hb hg h;refine biE (fun ho=>?_) fun ho=>?_
 ·have ho:s.length<=a:=dT ho;have:zcb s a=true:=by unfold zcb;rw [Jo ho]
  exact⟨rb this.symm,hw⟩
 ·have ho:¬ s.length<=a:=dF ho;have hl:a<s.length:=by omega
  refine⟨_,zac hV (i:=0) rfl,_,zac hV (i:=1) rfl,a,rfl,hl,s[a],zfb hl,cmo (zbK _ _) ?_⟩;rintro e _ ⟨rfl,rfl⟩;refine⟨Ja _ _,?_⟩;have:zcb s a=decide (clsL s[a]=2):=by unfold zcb;rw [gE hl]
  exact⟨rb (by rw [this];exact zdL),hw⟩
theorem zlJ {g a:Nat} {s:List UInt8} {w:World} (h:zav w ⟨g,0,none⟩ [strV s,i64 a]) (ha:a<s.length) (hs:s.length<=140737488351232) :
  Calls Tryz.prog 295 #[At0 g] w fun e w'=>e = .returned (i64 (a+1+zcl zaY (s.drop (a+1)):Nat))/\w=w':=by
 refine cofE 28 [At0 g] Tryz.func295 ?_;refine⟨_,zac h (i:=1) rfl,(a+1:Nat),(zaj (by omega)).trans (by omega),Nat,fun k=>⟨[(0,At0 g),(3,.int .i64 (k:Nat))],[]⟩,fun k X=>k<=s.length/\k+zcl zaY (s.drop k)=a+1+zcl zaY (s.drop (a+1))/\w=X,fun k=>s.length-k,a+1,(cvE rfl rfl),⟨ha,rfl,rfl⟩,?_⟩;rintro k _ ⟨hk,he,rfl⟩;dsimp only at hk he ⊢;refine⟨_,zac h (i:=0) rfl,biE (fun hc=>?_) fun hc=>?_⟩
 ·have hc:(k:Int)<(s.length:Int):=dT hc;have hl:k<s.length:=by omega
  refine⟨_,zac h (i:=0) rfl,k,rfl,hl,s[k],zfb hl,cmo (zkz _ _) ?_⟩;rintro e _ ⟨rfl,rfl⟩;refine biE (fun hi=>?_) fun hi=>?_
  ·refine⟨(k+1:Nat),(zaj (by omega)).trans (by omega),k+1,(cvE rfl rfl),⟨hl,?_,rfl⟩,zdc (by omega)⟩;rw [zdh hl,Kc hi] at he;omega
  ·have hi:¬ zaY s[k]=true:=by rw [Bool.not_eq_true];exact hi
   rw [zdh hl,JZ hi] at he;exact⟨by rw [<- he];rfl,rfl⟩
 ·have hc:¬ (k:Int)<(s.length:Int):=dF hc;refine Jn (fun h=>by cases h) (fun _=>?_);rw [zhw (by omega)] at he;exact⟨by rw [<- he];rfl,rfl⟩
theorem zjs {g a:Nat} {s:List UInt8} {w:World} (h:zav w ⟨g,0,none⟩ [strV s,i64 a]) (ha:a<s.length) (hs:s.length<=140737488351232) :
  Calls Tryz.prog 296 #[At0 g] w fun e w'=>e = .returned (i64 (a+1+zcl digB (s.drop (a+1)):Nat))/\w=w':=by
 refine cofE 29 [At0 g] Tryz.func296 ?_;refine⟨_,zac h (i:=1) rfl,(a+1:Nat),(zaj (by omega)).trans (by omega),Nat,fun k=>⟨[(0,At0 g),(3,.int .i64 (k:Nat))],[]⟩,fun k X=>k<=s.length/\k+zcl digB (s.drop k)=a+1+zcl digB (s.drop (a+1))/\w=X,fun k=>s.length-k,a+1,(cvE rfl rfl),⟨ha,rfl,rfl⟩,?_⟩;rintro k _ ⟨hk,he,rfl⟩;dsimp only at hk he ⊢;refine⟨_,zac h (i:=0) rfl,biE (fun hc=>?_) fun hc=>?_⟩
 ·have hc:(k:Int)<(s.length:Int):=dT hc;have hl:k<s.length:=by omega
  refine⟨_,zac h (i:=0) rfl,k,rfl,hl,s[k],zfb hl,cmo (zbK _ _) ?_⟩;rintro e _ ⟨rfl,rfl⟩;have hd:decide ((clsL s[k]:Int)=4)=digB s[k]:=zdL (b:=4);refine biE (fun hi=>?_) fun hi=>?_
  ·refine⟨(k+1:Nat),(zaj (by omega)).trans (by omega),k+1,(cvE rfl rfl),⟨hl,?_,rfl⟩,zdc (by omega)⟩;rw [zdh hl,Kc (hd.symm.trans hi)] at he;omega
  ·have hi:¬ digB s[k]=true:=by rw [Bool.not_eq_true];exact hd.symm.trans hi
   rw [zdh hl,JZ hi] at he;exact⟨by rw [<- he];rfl,rfl⟩
 ·have hc:¬ (k:Int)<(s.length:Int):=dF hc;refine Jn (fun h=>by cases h) (fun _=>?_);rw [zhw (by omega)] at he;exact⟨by rw [<- he];rfl,rfl⟩
def zje (s:List UInt8) (a:Nat) (c:UInt8):Nat:=if (eqB c 61||eqB c 33)&&decide (s[a+1]?=some 61) then a+2 else a+1
theorem zl2 {g a:Nat} {s:List UInt8} {w:World} (h:zav w ⟨g,0,none⟩ [strV s,i64 a]) (ha:a<s.length) (hs:s.length<=140737488351232) :
  CB 294 #[At0 g] w (i64 (zje s a s[a])):=by
 refine cofM 46 [At0 g] (.s .p (.s .p (.s .p (.c .p .p)))) Tryz.func294 ?_;refine⟨_,zac h (i:=1) rfl,(a+1:Nat),(zaj (by omega)).trans (by omega),DrawE.ord [] [0,1,2,3,4,5,6,7,8,9] (by kernel_rfl) ?_⟩;have hd:zav w.drew ⟨g,0,none⟩ [strV s,i64 a]:=zaB rfl h;refine⟨_,zac hd (i:=0) rfl,_,zac hd (i:=1) rfl,a,rfl,ha,s[a],zfb ha,Unit,fun _=>⟨[(3,i64 (zje s a s[a]))],[]⟩,fun _ X=>X=w.drew,?_,?_⟩
 ·have no:((eqB s[a] 61||eqB s[a] 33)&&decide (s[a+1]?=some 61))=false->∃ _:Unit,some (Value.int .i64 ((a+1:Nat):Int))=some (i64 (zje s a s[a])):=fun hf=>⟨(),by unfold zje;rw [hf];rfl⟩;refine biE (fun h1=>?_) fun h1=>?_
  ·have he:(eqB s[a] 61||eqB s[a] 33)=true:=by
    have:eqB s[a] 61=true:=h1;rw [this];rfl
   refine brT ⟨_,zac hd (i:=0) rfl,biE (fun h2=>?_) fun h2=>?_⟩
   ·have h2:((a+1:Nat):Int)<(s.length:Int):=dT h2;have hl:a+1<s.length:=(by omega);refine⟨_,zac hd (i:=0) rfl,a+1,rfl,hl,s[a+1],zfb hl,biE (fun h3=>?_) fun h3=>?_⟩
    ·refine⟨(a+2:Nat),(zaj (by omega)).trans (by omega),(),⟨.cons ?_ .nil,rfl⟩,rfl⟩;have h61:s[a+1]=61:=by
      apply Kh.1;have:((s[a+1].toNat:Nat):Int)=61:=dT h3;have h6:(61:UInt8).toNat=61:=rfl;omega
     unfold zje;rw [he,gE hl,h61];rfl
    ·obtain⟨_,e⟩:=no (by
      have h61:¬ s[a+1]=61:=fun e=>by rw [e] at h3;cases h3
      rw [gE hl,Kb (by simpa using h61),JY])
     exact⟨(),⟨.cons e .nil,rfl⟩,rfl⟩
   ·have h2:¬ ((a+1:Nat):Int)<(s.length:Int):=dF h2;refine brF ?_;obtain⟨_,e⟩:=no (by rw [Jo (by omega)];simp);exact⟨(),⟨.cons e .nil,rfl⟩,rfl⟩
  ·have h1:eqB s[a] 61=false:=h1;refine biE (fun h1b=>?_) fun h1b=>?_
   ·have he:(eqB s[a] 61||eqB s[a] 33)=true:=by
     have:eqB s[a] 33=true:=h1b;rw [this,Bool.or_true]
    refine⟨_,zac hd (i:=0) rfl,biE (fun h2=>?_) fun h2=>?_⟩
    ·have h2:((a+1:Nat):Int)<(s.length:Int):=dT h2;have hl:a+1<s.length:=(by omega);refine⟨_,zac hd (i:=0) rfl,a+1,rfl,hl,s[a+1],zfb hl,biE (fun h3=>?_) fun h3=>?_⟩
     ·refine⟨(a+2:Nat),(zaj (by omega)).trans (by omega),(),⟨.cons ?_ .nil,rfl⟩,rfl⟩;have h61:s[a+1]=61:=by
       apply Kh.1;have:((s[a+1].toNat:Nat):Int)=61:=dT h3;have h6:(61:UInt8).toNat=61:=rfl;omega
      unfold zje;rw [he,gE hl,h61];rfl
     ·obtain⟨_,e⟩:=no (by
       have h61:¬ s[a+1]=61:=fun e=>by rw [e] at h3;cases h3
       rw [gE hl,Kb (by simpa using h61),JY])
      exact⟨(),⟨.cons e .nil,rfl⟩,rfl⟩
    ·have h2:¬ ((a+1:Nat):Int)<(s.length:Int):=dF h2;refine brF ?_;obtain⟨_,e⟩:=no (by rw [Jo (by omega)];simp);exact⟨(),⟨.cons e .nil,rfl⟩,rfl⟩
   ·have h1b:eqB s[a] 33=false:=h1b;refine brF (brF ?_);obtain⟨_,e⟩:=no (by rw [h1,h1b];rfl);exact⟨(),⟨.cons e .nil,rfl⟩,rfl⟩
 rintro _ _ rfl;exact⟨rfl,(Ja _ _).drew⟩
def ScV (X:World) (g:Nat) (s:List UInt8) (a:Nat) (op:Bool):Prop:=X.heap[g]?=some (.cells #[strV s,i64 a,.bool op] 334 (0,0))
theorem ScV.cells {X:World} {g a:Nat} {s:List UInt8} {op:Bool} (h:ScV X g s a op):zav X ⟨g,0,none⟩ [strV s,i64 a]:=by
 have:=za9 (o:=0) (n:=2) h;exact this
theorem ScV.below {X Y:World} {g a:Nat} {s:List UInt8} {op:Bool} (h:ScV X g s a op) (hb:Bw X Y):ScV Y g s a op:=zab hb h
theorem zhY {a b c:World} {g:Nat} (h:a.grownBy b (some g)) (k:Bw b c):a.grownBy c (some g):=zaf h (zag k)
theorem zgP {X:World} {g a:Nat} {s:List UInt8} {op:Bool} (h:ScV X g s a op) (v:Nat) {K:World->Prop} (k:∀ Y,ScV Y g s v op->X.grownBy Y (some g)->Y.heap.size=X.heap.size->K Y) :
  SatR ((storeVar 3 ⟨g,1,none⟩ (i64 v)).run Tryz.prog X) fun _ w'=>K w' :=
 zcd k3 rfl h (o:=1) (by show 1<3;omega) (v:=i64 v) rfl rfl fun Y fY gY sY=>k Y fY gY sY
theorem zkh {X:World} {g a:Nat} {s:List UInt8} {op:Bool} (h:ScV X g s a op) (v:Bool) {K:World->Prop} (k:∀ Y,ScV Y g s a v->X.grownBy Y (some g)->Y.heap.size=X.heap.size->K Y) :
  SatR ((storeVar 4 ⟨g,2,none⟩ (.bool v)).run Tryz.prog X) fun _ w'=>K w' :=
 zcd k4 rfl h (o:=2) (by show 2<3;omega) (v := .bool v) rfl rfl fun Y fY gY sY=>k Y fY gY sY
theorem zd3 {s:List UInt8} {k:Nat} (h:k<s.length):zcb s k=decide (clsL s[k]=2):=by unfold zcb;rw [gE h]
theorem zh9 {s:List UInt8} {k:Nat} (h:s.length<=k):zcb s k=true:=by unfold zcb;rw [Jo h]
theorem zr9 {g a:Nat} {s:List UInt8} {op:Bool} {w:World} (h:ScV w g s a op) (ha:a<=s.length) (hs:s.length<=140737488351232) :
  Calls Tryz.prog 280 #[At0 g] w fun e w'=>(∃ v,e = .returned v)/\ScV w' g s (zaG s a) op/\w.grownBy w' (some g):=by
 refine cofM 50 [At0 g] (.c .p (.c .p .p)) Tryz.func280 ?_;obtain⟨b,hb⟩:=nm (zdT s a);have hbl:b<=s.length:=by rw [hb];exact zmY s a ha
 refine⟨Unit,fun _=>⟨[(0,At0 g)],[]⟩,fun _ X=>ScV X g s b op/\w.grownBy X (some g),?_,?_⟩
 ·refine⟨Nat,fun k=>⟨[(0,At0 g)],[]⟩,fun k X=>k<=s.length/\k+zcl zkL (s.drop k)=b/\ScV X g s k op/\w.grownBy X (some g),fun k=>s.length-k,a,(cvE rfl rfl),⟨ha,hb.symm,h,zbz _ _⟩,?_⟩;rintro k X ⟨hk,he,hX,hg⟩;dsimp only at hk he ⊢;refine DrawE.ord [] [0,1,2,3,4,5,6,7,8,9,10,11,12,13,14,15] (by kernel_rfl) ?_;have hXd:ScV X.drew g s k op:=hX;refine cmo (zkp hXd.cells) ?_;rintro e Y ⟨rfl,hbY⟩;refine⟨hbY,?_⟩;have hY:=hXd.below hbY;have gY:w.grownBy Y (some g):=zaf hg (zag ((Ja _ X).drew.trans hbY));refine biE (fun ho=>?_) fun ho=>?_
  ·have ho:s.length > k:=by
    have:(!decide (s.length<=k))=true:=ho;simpa using this
   refine⟨_,zac hY.cells (i:=0) rfl,_,zac hY.cells (i:=1) rfl,k,rfl,ho,s[k],zfb ho,cmo (zbK _ _) ?_⟩;rintro e _ ⟨rfl,rfl⟩;refine⟨Ja _ _,?_⟩;have hd:decide ((clsL s[k]:Int)=1)=zkL s[k]:=zdL (b:=1);rw [zdh ho] at he;refine biE (fun hi=>?_) fun hi=>?_
   ·rw [Kc (hd.symm.trans hi)] at he;exact⟨_,zac hY.cells (i:=1) rfl,(k+1:Nat),(zaj (by omega)).trans (by omega),zgP hY (k+1) fun Z hZ gZ sZ=>⟨k+1,(cvE rfl rfl),⟨ho,by omega,hZ,zaf gY gZ⟩,zdc (by omega)⟩⟩
   ·have hi:¬ zkL s[k]=true:=(by rw [Bool.not_eq_true];exact hd.symm.trans hi);rw [JZ hi] at he;exact⟨(),(cvE rfl rfl),by rw [<- he];exact hY,gY⟩
  ·have ho:s.length<=k:=by
    have:(!decide (s.length<=k))=false:=ho;simpa using this
   refine brF ?_;rw [zhw ho] at he;exact⟨(),(cvE rfl rfl),by rw [<- he];exact hY,gY⟩
 clear h;rintro _ X ⟨hX,hg⟩;have hp:zaG s a=match s[b]? with
   | some c=>if clsL c=7 then b+zcl zgH (s.drop b) else b
   | none=>b:=by rw [hb];rfl
 refine⟨Unit,fun _=>⟨[(0,At0 g)],[]⟩,fun _ X=>(∃ hl:b<s.length,clsL s[b]=7)/\ScV X g s b op/\w.grownBy X (some g),?_,?_⟩
 ·refine DrawE.ord [] [0,1,2,3,4,5,6,7,8,9,10,11,12,13,14] (by kernel_rfl) ?_;have hXd:ScV X.drew g s b op:=hX;refine cmo (zkp hXd.cells) ?_;rintro e Y ⟨rfl,hbY⟩;refine⟨hbY,?_⟩;have hY:=hXd.below hbY;have gY:w.grownBy Y (some g):=zaf hg (zag ((Ja _ X).drew.trans hbY));refine biE (fun ho=>?_) fun ho=>?_
  ·have ho:s.length<=b:=dT ho;refine brT ?_;have:zaG s a=b:=by rw [hp,Jo ho]
   rw [this];exact⟨⟨_,rfl⟩,hY,gY⟩
  ·have ho:¬ s.length<=b:=dF ho;have hl:b<s.length:=by omega
   refine⟨_,zac hY.cells (i:=0) rfl,_,zac hY.cells (i:=1) rfl,b,rfl,hl,s[b],zfb hl,cmo (zbK _ _) ?_⟩;rintro e _ ⟨rfl,rfl⟩;refine⟨Ja _ _,biE (fun hi=>?_) fun hi=>?_⟩
   ·have hi:¬ clsL s[b]=7:=by
     have h1:(!decide ((clsL s[b]:Int)=7))=true:=hi;simp at h1;omega
    have:zaG s a=b:=(by rw [hp,gE hl];simp only [JZ hi]);rw [this];exact⟨⟨_,rfl⟩,hY,gY⟩
   ·have hi:clsL s[b]=7:=by
     have h1:(!decide ((clsL s[b]:Int)=7))=false:=hi;simp at h1;omega
    exact⟨(),(cvE rfl rfl),⟨hl,hi⟩,hY,gY⟩
 clear hX hg X;rintro _ X ⟨⟨hl,h7⟩,hX,hg⟩;have hp:zaG s a=b+zcl zgH (s.drop b):=by rw [hp,gE hl];simp only [Kc h7]
 rw [hp];refine⟨Nat,fun k=>⟨[(0,At0 g)],[]⟩,fun k X=>k<=s.length/\k+zcl zgH (s.drop k)=b+zcl zgH (s.drop b)/\ScV X g s k op/\w.grownBy X (some g),fun k=>s.length-k,b,(cvE rfl rfl),⟨hbl,rfl,hX,hg⟩,?_⟩;clear hX hg X;rintro k X ⟨hk,he,hX,hg⟩;dsimp only at hk he ⊢;refine cmo (znJ hX.cells (hlt hX)) ?_;rintro e Y ⟨rfl,hbY⟩;have hY:=hX.below hbY;have gY:=zhY hg hbY;refine biE (fun hi=>?_) fun hi=>?_
 ·have hi:zcb s k=false:=by
   have h1:(!zcb s k)=true:=hi;simpa using h1
  have hkl:k<s.length:=by
   by_cases h0:k<s.length
   ·exact h0
   ·rw [zh9 (by omega)] at hi;cases hi
  have hn:zgH s[k]=true:=by
   rw [zd3 hkl] at hi;unfold zgH;rw [hi];rfl
  rw [zdh hkl,Kc hn] at he;exact⟨_,zac hY.cells (i:=1) rfl,(k+1:Nat),(zaj (by omega)).trans (by omega),zgP hY (k+1) fun Z hZ gZ sZ=>⟨k+1,(cvE rfl rfl),⟨hkl,by omega,hZ,zaf gY gZ⟩,zdc (by omega)⟩⟩
 ·have hi:zcb s k=true:=by
   have h1:(!zcb s k)=false:=hi;simpa using h1
  have h0:zcl zgH (s.drop k)=0:=by
   by_cases h0:k<s.length
   ·rw [zd3 h0] at hi;rw [zdh h0,JZ];unfold zgH;rw [hi];decide
   ·exact zhw (by omega)
  rw [h0] at he;have he:k=b+zcl zgH (s.drop b):=by omega
  exact⟨⟨_,rfl⟩,by rw [<- he];exact hY,gY⟩
theorem zmv {s:List UInt8} {a:Nat} (ha:a<=s.length):zaG s a<=s.length:=by
 have h1:zdT s a<=s.length:=zmY s a ha;unfold zaG
 split
 ·split
  ·exact zmY s _ h1
  ·exact h1
 ·exact h1
def tokE:Enc Tok:=⟨fun t=>[u8 t.kind,strV t.text,i64 t.pos],3,fun _=>rfl,by decide,fun a u hu=>by
 simp only [JV,List.not_mem_nil,or_false] at hu;rcases hu with rfl | rfl | rfl <;> rfl⟩
theorem znf {s:List UInt8} {a:Nat} (ha:a<s.length) (c:UInt8):a<endL s a c/\endL s a c<=s.length:=by
 unfold endL
 split
 ·have:=zmY (p:=zaY) s (a+1) ha;omega
 ·split
  ·have:=zmY (p:=digB) s (a+1) ha;omega
  ·split
   ·rename_i h;have h2:s[a+1]?=some 61:=by
     simp only [bAT,dE] at h;exact h.2
    have:=(Ju.1 h2).1;omega
   ·omega
theorem znF (s:List UInt8) (a e:Nat):(bs s).extract a e=bs ((s.drop a).take (e-a)):=by
 have h:((bs s).extract a e).data=(bs ((s.drop a).take (e-a))).data:=by
  rw [ByteArray.data_extract];apply Array.toList_inj.1;rw [Array.toList_extract];rfl
 exact ByteArray.ext h
theorem zp1 {g a:Nat} {s:List UInt8} {op:Bool} {w:World} (h:ScV w g s a op) (ha:a<s.length) (hs:s.length<=140737488351232) :
  Calls Tryz.prog 282 #[At0 g] w fun e w'=>e = .returned (.agg (tokE.enc (tokL s a s[a])).toArray)/\ScV w' g s (endL s a s[a]) op/\w.grownBy w' (some g):=by
 refine cofM 51 [At0 g] (.s .p (.s .p (.c .p .p))) Tryz.func282 ?_;obtain⟨z,hz⟩:=nm (tokE.enc ⟨0,[],0⟩);obtain⟨W0,hW0⟩:=nm ((w.alloc (.cells z.toArray 311)));have hb0:Bw w W0:=by rw [hW0];exact (zba _ _)
 have f0:W0.heap[w.heap.size]?=some (.cells z.toArray 311 (0,0)):=by rw [hW0];exact hnew w _
 have h0:ScV W0 g s a op:=h.below hb0;have hgl:g<w.heap.size:=hlt h;refine⟨Nat,fun f=>⟨[(0,At0 g),(2,.pointer (some ⟨w.heap.size,0,none⟩)),(3,u8 (ziV s[a])),(4,.func (.func f) #[] #[])],[]⟩,fun f X=>Bw W0 X /\
  ((clsL s[a]=3/\f=295)\/(¬ clsL s[a]=3/\clsL s[a]=4/\f=296)\/(¬ clsL s[a]=3/\¬ clsL s[a]=4/\f=294)),?_,?_⟩
 ·subst hz;subst hW0;refine DrawE.ord [] [0,1,2,3,4,5,6,7,8,9,10,11] (by kernel_rfl) ?_;have hd:ScV (w.alloc (.cells (tokE.enc ⟨0,[],0⟩).toArray 311)).drew g s a op:=h0;refine⟨_,zac hd.cells (i:=0) rfl,_,zac hd.cells (i:=1) rfl,a,rfl,ha,s[a],zfb ha,cmo (zbK _ _) ?_⟩;rintro e _ ⟨rfl,rfl⟩;refine⟨Ja _ _,biE (fun h3=>?_) fun h3=>?_⟩
  ·have h3:clsL s[a]=3:=by have h3:(clsL s[a]:Int)=3:=dT h3;omega
   exact⟨_,⟨.cons rfl (.cons rfl (.cons (by unfold ziV;rw [Kc h3];rfl) (.cons rfl .nil))),rfl⟩,(Ja _ _).drew,.inl ⟨h3,rfl⟩⟩
  have h3:¬ clsL s[a]=3:=by have h3:¬ (clsL s[a]:Int)=3:=dF h3;omega
  refine biE (fun h4=>?_) fun h4=>?_
  ·have h4:clsL s[a]=4:=by have h4:(clsL s[a]:Int)=4:=dT h4;omega
   exact⟨_,⟨.cons rfl (.cons rfl (.cons (by unfold ziV;rw [JZ h3,Kc h4];rfl) (.cons rfl .nil))),rfl⟩,(Ja _ _).drew,.inr (.inl ⟨h3,h4,rfl⟩)⟩
  ·have h4:¬ clsL s[a]=4:=by have h4:¬ (clsL s[a]:Int)=4:=dF h4;omega
   exact⟨_,⟨.cons rfl (.cons rfl (.cons (by unfold ziV;rw [JZ h3,JZ h4];rfl) (.cons rfl .nil))),rfl⟩,(Ja _ _).drew,.inr (.inr ⟨h3,h4,rfl⟩)⟩
 rintro f V ⟨hV,hf⟩;dsimp only at hV hf ⊢;have hVs:=h0.below hV;obtain⟨e1,e2⟩:=znf ha s[a];have fin:∀ Y,Bw V Y->∀ Z,ScV Z g s (endL s a s[a]) op->Y.grownBy Z (some g)->Bw w Y/\Z.heap[w.heap.size]?=some (.cells z.toArray 311 (0,0))/\w.grownBy Z (some g):=fun Y hY Z hZ gZ=>by
  have hwY:=((zst hb0 hV)).trans (hY.mono (by have:=hb0.size;have:=hV.size;omega));have f1:=zab hY (zab hV f0);refine⟨hwY,(gZ.block _ (hlt f1) (fun e=>by simp only [Jf] at e;omega)).trans f1,zaf (zag hwY) gZ⟩
 have last:∀ Z,Z.heap[w.heap.size]?=some (.cells z.toArray 311 (0,0))->w.grownBy Z (some g)->∀ R,Z.grownBy R (some w.heap.size)->w.grownBy R (some g):=fun Z _ gZ R gR =>
  ⟨gR.os.trans gZ.os,gR.tape.trans gZ.tape,gR.output.trans gZ.output,Jj gZ.size gR.size,fun k hk hne=>(gR.block k (nL hk gZ.size) (fun e=>by simp only [Jf] at e;omega)).trans (gZ.block k hk hne)⟩
 have fill:∀ cs,cs=tokE.enc (tokL s a s[a])->∀ Z,Z.heap[w.heap.size]?=some (.cells z.toArray 311 (0,0))->∀ (K:World->Prop),(∀ R,R.heap[w.heap.size]?=some (.cells (tokE.enc (tokL s a s[a])).toArray 311 (0,0))->Z.grownBy R (some w.heap.size)->K R) ->
   SatR ((storeVar 311 ⟨w.heap.size,0,none⟩ (.agg cs.toArray)).run Tryz.prog Z) fun _ w'=>K w':=fun cs hcs Z fZ K k=>by
  subst hz hcs;exact zao (v := .agg (tokE.enc (tokL s a s[a])).toArray) k311 fZ rfl rfl rfl (k _ (zal fZ) (zaL Z _ _))
 rcases hf with ⟨h3,rfl⟩ | ⟨h3,h4,rfl⟩ | ⟨h3,h4,rfl⟩
 ·refine⟨_,zac hVs.cells (i:=1) rfl,cmo (zlJ hVs.cells ha hs) ?_⟩;rintro e _ ⟨rfl,rfl⟩;have hbY:Bw V V:=Ja _ _;have hVY:=hVs;have ee:a+1+zcl zaY (s.drop (a+1))=endL s a s[a]:=by unfold endL;rw [Kc h3]
  rw [ee];refine zgP hVY (endL s a s[a]) fun Z hZ gZ sZ=>?_;obtain⟨hwY,fZ,gwZ⟩:=fin V hbY Z hZ gZ;refine DrawE.ord [15] [0,1,2,3,4,5,6,7,8,9,10,11,12,13,14,15] (by kernel_rfl) ?_;have hZd:ScV Z.drew g s (endL s a s[a]) op:=hZ;refine⟨_,zac hZd.cells (i:=0) rfl,_,zac hZd.cells (i:=1) rfl,endL s a s[a],rfl,e2,a,rfl,by omega,?_⟩;exact⟨[u8 (ziV s[a]),.string ((bs s).extract a (endL s a s[a])),i64 a],rfl,fill _ (by rw [znF];rfl) Z.drew fZ _ fun R fR gR=>⟨_,rfl,zaa fR,rfl,(gR.block g (hlt hZd) (fun e=>by simp only [Jf] at e;omega)).trans hZd,last Z.drew fZ (zaf gwZ (zag (Ja _ Z).drew)) R gR⟩⟩
 ·refine⟨_,zac hVs.cells (i:=1) rfl,cmo (zjs hVs.cells ha hs) ?_⟩;rintro e _ ⟨rfl,rfl⟩;have hbY:Bw V V:=Ja _ _;have hVY:=hVs;have ee:a+1+zcl digB (s.drop (a+1))=endL s a s[a]:=by unfold endL;rw [JZ h3,Kc h4]
  rw [ee];refine zgP hVY (endL s a s[a]) fun Z hZ gZ sZ=>?_;obtain⟨hwY,fZ,gwZ⟩:=fin V hbY Z hZ gZ;refine DrawE.ord [15] [0,1,2,3,4,5,6,7,8,9,10,11,12,13,14,15] (by kernel_rfl) ?_;have hZd:ScV Z.drew g s (endL s a s[a]) op:=hZ;refine⟨_,zac hZd.cells (i:=0) rfl,_,zac hZd.cells (i:=1) rfl,endL s a s[a],rfl,e2,a,rfl,by omega,?_⟩;exact⟨[u8 (ziV s[a]),.string ((bs s).extract a (endL s a s[a])),i64 a],rfl,fill _ (by rw [znF];rfl) Z.drew fZ _ fun R fR gR=>⟨_,rfl,zaa fR,rfl,(gR.block g (hlt hZd) (fun e=>by simp only [Jf] at e;omega)).trans hZd,last Z.drew fZ (zaf gwZ (zag (Ja _ Z).drew)) R gR⟩⟩
 ·refine⟨_,zac hVs.cells (i:=1) rfl,cmo (zl2 hVs.cells ha hs) ?_⟩;rintro e Y ⟨rfl,hbY⟩;have hVY:=hVs.below hbY;have ee:zje s a s[a]=endL s a s[a]:=by unfold endL;rw [JZ h3,JZ h4];rfl
  rw [ee];refine zgP hVY (endL s a s[a]) fun Z hZ gZ sZ=>?_;obtain⟨hwY,fZ,gwZ⟩:=fin Y hbY Z hZ gZ;refine DrawE.ord [15] [0,1,2,3,4,5,6,7,8,9,10,11,12,13,14,15] (by kernel_rfl) ?_;have hZd:ScV Z.drew g s (endL s a s[a]) op:=hZ;refine⟨_,zac hZd.cells (i:=0) rfl,_,zac hZd.cells (i:=1) rfl,endL s a s[a],rfl,e2,a,rfl,by omega,?_⟩;exact⟨[u8 (ziV s[a]),.string ((bs s).extract a (endL s a s[a])),i64 a],rfl,fill _ (by rw [znF];rfl) Z.drew fZ _ fun R fR gR=>⟨_,rfl,zaa fR,rfl,(gR.block g (hlt hZd) (fun e=>by simp only [Jf] at e;omega)).trans hZd,last Z.drew fZ (zaf gwZ (zag (Ja _ Z).drew)) R gR⟩⟩
def numV (l:List UInt8):Nat:=l.foldl (fun v c=>10*v+(c.toNat-48)) 0
theorem zmJ {s:List UInt8} {k:Nat} (h:k<s.length):numV (s.take (k+1))=10*numV (s.take k)+(s[k].toNat-48):=by
 unfold numV;rw [tsg h,Kt];rfl
theorem zrg {c:UInt8} (h:digB c=true):48<=c.toNat/\c.toNat<=57:=by
 unfold digB at h;have h:clsL c=4:=dT h;unfold clsL at h
 cases h1:ziX c with
 | true=>rw [h1] at h;cases h
 | false =>
  rw [h1] at h
  cases h2:zjD c with
  | true=>unfold zjD at h2;simp at h2;omega
  | false =>
   rw [h2] at h
   revert h
   cases eqB c 32||eqB c 9 <;> cases eqB c 10 <;> cases eqB c 95 <;> cases eqB c 35 <;> cases zoL c <;> (intro h;cases h)
theorem zt7 (s:List UInt8) (hs:s.length<=140737488351232) (w:World):Calls Tryz.prog 284 #[strV s] w fun e w'=>∃ v,e = .returned (.tuple #[u8 v,.bool (numL s)])/\w=w':=by
 refine cofM 47 [strV s] (.s .p (.c .p .p)) Tryz.func284 ?_;have hnl:numL s=(decide (1<=s.length)&&(decide (s.length<=3)&&(!(decide (s.head?=some 48)&&decide (1<s.length))&&(s.all digB&&decide (numV s<=255))))):=rfl;refine⟨Unit,fun _=>⟨[(0,strV s)],[]⟩,fun _ X=>(1<=s.length/\s.length<=3/\(decide (s.head?=some 48)&&decide (1<s.length))=false)/\w=X,?_,?_⟩
 ·refine biE (fun h1=>?_) fun h1=>?_
  ·have h1:(s.length:Int)<1:=dT h1;exact brT (brT ⟨0,by rw [hnl,Kb (by omega)];rfl,rfl⟩)
  have h1:¬ (s.length:Int)<1:=dF h1;refine biE (fun h2=>?_) fun h2=>?_
  ·have h2:(3:Int)<(s.length:Int):=dT h2;exact brT ⟨0,by rw [hnl,Kb (p:=s.length<=3) (by omega)];simp;rfl,rfl⟩
  have h2:¬ (3:Int)<(s.length:Int):=dF h2;have h0:0<s.length:=by omega
  have hh:s.head?=some s[0]:=by rw [List.head?_eq_getElem?,gE h0]
  refine⟨0,rfl,h0,s[0],zfb h0,biE (fun h3=>?_) fun h3=>?_⟩
  ·have h3:s[0]=48:=by
    apply Kh.1;have h3:((s[0].toNat:Nat):Int)=48:=dT h3;have:(48:UInt8).toNat=48:=rfl;omega
   refine biE (fun h4=>?_) fun h4=>?_
   ·have h4:(1:Int)<(s.length:Int):=dT h4;exact⟨0,by rw [hnl,hh,h3,Ka (p:=1<s.length) (by omega)];simp;rfl,rfl⟩
   ·have h4:¬ (1:Int)<(s.length:Int):=dF h4;exact⟨(),(cvE rfl rfl),⟨by omega,by omega,by rw [Kb (p:=1<s.length) (by omega),JY]⟩,rfl⟩
  ·refine brF ?_;exact⟨(),(cvE rfl rfl),⟨by omega,by omega,by
    have:¬ s[0]=48:=fun e=>by rw [e] at h3;cases h3
    rw [hh,Kb (by simpa using this),JJ]⟩,rfl⟩
 rintro _ _ ⟨⟨h1,h2,h3⟩,rfl⟩;have hnl:numL s=(s.all digB&&decide (numV s<=255)):=by rw [hnl,Ka h1,Ka h2,h3];rfl
 rw [hnl];refine⟨Nat,fun k=>⟨[(0,strV s),(4,i64 (numV (s.take k):Nat)),(25,i64 s.length),(26,i64 (k:Nat))],[]⟩,fun k X=>k<=s.length/\(∀ c∈s.take k,digB c=true)/\numV (s.take k)<10^k/\w=X,fun k=>s.length-k,0,(cvE rfl rfl),⟨Jh _,by simp,Nat.one_pos,rfl⟩,?_⟩;rintro k _ ⟨hk,hdg,hv,rfl⟩;dsimp only at hk hdg hv ⊢;refine biE (fun hc=>?_) fun hc=>?_
 ·have hc:(k:Int)<(s.length:Int):=dT hc;have hl:k<s.length:=by omega
  refine⟨k,rfl,hl,s[k],zfb hl,cmo (zbK _ _) ?_⟩;rintro e _ ⟨rfl,rfl⟩;have hd:decide ((clsL s[k]:Int)=4)=digB s[k]:=zdL (b:=4);refine biE (fun hi=>?_) fun hi=>?_
  ·have hi:digB s[k]=false:=by
    have h1:(!decide ((clsL s[k]:Int)=4))=true:=hi;rw [hd] at h1;simpa using h1
   have:s.all digB=false:=by
    rw [List.all_eq_false];exact⟨s[k],gM _,by rw [hi];simp⟩
   exact⟨0,by rw [this];rfl,rfl⟩
  ·have hi:digB s[k]=true:=by
    have h1:(!decide ((clsL s[k]:Int)=4))=false:=hi;rw [hd] at h1;simpa using h1
   obtain⟨d1,d2⟩:=zrg hi;have hv3:numV (s.take k)<1000:=nL hv (by
    have:k<=3:=(by omega);exact Nat.pow_le_pow_right (by decide) this)
   have hsn:=zmJ hl;refine⟨((10*numV (s.take k):Nat):Int),(zaj (by omega)).trans (by omega),k,rfl,hl,s[k],zfb hl,((s[k].toNat-48:Nat):Int),(zhn (by omega)).trans (by omega),((s[k].toNat-48:Nat):Int),(zaj (by omega)).trans (by omega),(numV (s.take (k+1)):Int),(zaj (by omega)).trans (by omega),(k+1:Nat),(zaj (by omega)).trans (by omega),k+1,(cvE rfl rfl),⟨hl,?_,?_,rfl⟩,zdc (by omega)⟩
   ·rw [tsg hl];intro c hc;rcases JM.1 hc with hc | hc
    ·exact hdg c hc
    ·simp only [Jl] at hc;rw [hc];exact hi
   ·rw [hsn,Nat.pow_succ];omega
 ·have hc:¬ (k:Int)<(s.length:Int):=dF hc;obtain rfl:k=s.length:=by omega
  rw [JF] at hdg hv;have ha:s.all digB=true:=Je.2 hdg;rw [ha,JF];have hv3:numV s<1000:=nL hv (Nat.pow_le_pow_right (by decide) h2);refine biE (fun h5=>?_) fun h5=>?_
  ·have h5:(255:Int)<(numV s:Int):=dT h5;exact⟨0,by rw [Kb (by omega)];rfl,rfl⟩
  ·have h5:¬ (255:Int)<(numV s:Int):=dF h5;exact⟨((UInt8.ofNat (numV s)).toNat:Int),(zhn (by omega)).trans (by rw [UInt8.toNat_ofNat'];omega),UInt8.ofNat (numV s),by rw [Ka (by omega)];rfl,rfl⟩
theorem zsu {t:Tok} (h:t.kind=3) (hl:0<t.text.length):zbC t=if clsL t.text[0]=6 then 0 else 40:=by
 obtain⟨k,x,p⟩:=t;have h:k=3:=h;subst h
 cases x with
 | nil=>exact Kv hl (Nat.lt_irrefl 0)
 | cons a r=>rfl
theorem zqL (t:Tok) (ht:t.kind=3->t.text≠[]) (hs:t.text.length<=140737488351232) (w:World):CB 272 #[.agg (tokE.enc t).toArray] w (i64 (zbC t)):=by
 refine cofE 30 [.agg (tokE.enc t).toArray] Tryz.func272 ?_;have hb0:Bw w (w.alloc (.cells (tokE.enc t).toArray 311)):=zba _ _;have f0:=hnew w (.cells (tokE.enc t).toArray 311);have c0:zav (w.alloc (.cells (tokE.enc t).toArray 311)) ⟨w.heap.size,0,none⟩ [u8 t.kind,strV t.text,i64 t.pos]:=zaa f0;have kd:∀ k:UInt8,decide ((t.kind.toNat:Int)=(k.toNat:Int))=decide (t.kind=k):=fun k=>by
  rw [Kd];exact zbJ
 refine⟨_,zac c0 (i:=0) rfl,biE (fun h1=>?_) fun h1=>?_⟩
 ·have h1:t.kind=1:=dT ((kd 1).symm.trans h1);have e:zbC t=if 16<t.text.length then 42 else 0:=by unfold zbC;rw [Kc h1]
  rw [e];refine⟨_,zac c0 (i:=1) rfl,biE (fun h2=>?_) fun h2=>?_⟩
  ·have h2:(16:Int)<(t.text.length:Int):=dT h2;exact⟨by rw [Kc (by omega)];rfl,hb0⟩
  ·have h2:¬ (16:Int)<(t.text.length:Int):=dF h2;exact⟨by rw [JZ (by omega)];rfl,hb0⟩
 have h1:¬ t.kind=1:=dF ((kd 1).symm.trans h1);refine biE (fun h2=>?_) fun h2=>?_
 ·have h2:t.kind=2:=dT ((kd 2).symm.trans h2);have e:zbC t=if numL t.text then 0 else 41:=by unfold zbC;rw [JZ h1,Kc h2]
  rw [e];refine⟨_,zac c0 (i:=1) rfl,cmo (zt7 t.text hs _) ?_⟩;rintro e _ ⟨v,rfl,rfl⟩;refine biE (fun h3=>?_) fun h3=>?_
  ·have h3:(!numL t.text)=true:=h3;have h3:numL t.text=false:=by simpa using h3
   exact⟨by rw [h3];rfl,hb0⟩
  ·have h3:(!numL t.text)=false:=h3;have h3:numL t.text=true:=by simpa using h3
   exact⟨by rw [h3];rfl,hb0⟩
 have h2:¬ t.kind=2:=dF ((kd 2).symm.trans h2);refine biE (fun h3=>?_) fun h3=>?_
 ·have h3:t.kind=3:=dT ((kd 3).symm.trans h3);have hne:=ht h3;have hl:0<t.text.length:=List.length_pos_iff.2 hne;have e:zbC t=if clsL t.text[0]=6 then 0 else 40:=zsu h3 hl
  rw [e];refine⟨_,zac c0 (i:=1) rfl,0,rfl,hl,t.text[0],zfb hl,cmo (zbK _ _) ?_⟩;rintro e _ ⟨rfl,rfl⟩;refine biE (fun h4=>?_) fun h4=>?_
  ·have h4:(!decide ((clsL t.text[0]:Int)=6))=true:=h4;have h4:¬ clsL t.text[0]=6:=by simp at h4;omega
   exact⟨by rw [JZ h4];rfl,hb0⟩
  ·have h4:(!decide ((clsL t.text[0]:Int)=6))=false:=h4;have h4:clsL t.text[0]=6:=by simp at h4;omega
   exact⟨by rw [Kc h4];rfl,hb0⟩
 have h3:¬ t.kind=3:=dF ((kd 3).symm.trans h3);exact⟨by unfold zbC;rw [JZ h1,JZ h2,JZ h3];rfl,hb0⟩
theorem zgn {a b c:World} {g r:Nat} (h:a.grownBy b (some g)) (k:b.grownBy c (some r)) (hr:a.heap.size<=r):a.grownBy c (some g) :=
 ⟨k.os.trans h.os,k.tape.trans h.tape,k.output.trans h.output,Jj h.size k.size,fun i hi hne=>(k.block i (nL hi h.size) (fun e=>by simp only [Jf] at e;omega)).trans (h.block i hi hne)⟩
theorem zqy {x y:Int} {T:Array TypeId} {t:TypeId} {w:World} {K:Value->World->Prop} (k:K (.int .i64 (if y<x then y else x)) w):SatR ((Builtin.min_ T t [Value.int .i64 x,.int .i64 y].toArray).run Tryz.prog w) K :=
 SatR.mk (v := .int .i64 (if y<x then y else x)) (w':=w) (by simp [Builtin.min_,Builtin.min2]) k
section
variable {s:List UInt8} {f a:Nat} {op:Bool}
theorem zkt (h:zaG s a<s.length) (h2:¬ clsL s[zaG s a]=2):zcH s (f+1) a op=some (tokL s (zaG s a) s[zaG s a],endL s (zaG s a) s[zaG s a],true):=by
 unfold zcH;rw [gE h];simp only [JZ h2]
theorem zhE (h:zcb s (zaG s a)=true):zcH s (f+1) a true=some (⟨4,[],zaG s a⟩,min (zaG s a+1) s.length,false):=by
 unfold zcH;by_cases hp:zaG s a<s.length
 ·rw [zd3 hp] at h;have h:=dT h;rw [gE hp];simp only [Kc h];rfl
 ·rw [Jo (by omega)];rfl
theorem ziM (h:s.length<=zaG s a):zcH s (f+1) a false=none:=by
 unfold zcH;rw [Jo h];rfl
theorem ziN (h:zaG s a<s.length) (h2:clsL s[zaG s a]=2):zcH s (f+1) a false=zcH s f (min (zaG s a+1) s.length) false:=by
 conv=>lhs;unfold zcH
 rw [gE h];simp only [Kc h2];rfl
theorem zmw:a<=zaG s a:=by
 have h1:a<=zdT s a:=Nat.le_add_right _ _;unfold zaG
 split
 ·split
  ·omega
  ·exact h1
 ·exact h1
end
def zTok:Tok:=⟨0,[],0⟩
theorem zpy {g a:Nat} {s:List UInt8} {op:Bool} {w:World} (h:ScV w g s a op) (ha:a<=s.length) (hs:s.length<=140737488351232) :
  Calls Tryz.prog 271 #[At0 g] w fun e w'=>∃ t a' op' ok,e = .returned (.tuple #[.agg (tokE.enc t).toArray,.bool ok])/\(ok=true->zcH s (s.length+2) a op=some (t,a',op'))/\(ok=false->zcH s (s.length+2) a op=none) /\
   a'<=s.length/\ScV w' g s a' op'/\w.grownBy w' (some g):=by
 refine cofE 57 [At0 g] Tryz.func271 ?_;obtain⟨r,hr⟩:=nm (w.heap.size);have hgl:g<r:=by rw [hr];exact hlt h
 obtain⟨W0,hW0⟩:=nm (w.alloc (.cells (tokE.enc zTok).toArray 311));have hb0:Bw w W0:=by rw [hW0];exact (zba _ _)
 have f0:W0.heap[r]?=some (.cells (tokE.enc zTok).toArray 311 (0,0)):=by rw [hW0,hr];exact hnew w _
 have h0:ScV W0 g s a op:=h.below hb0;refine⟨Nat×Nat×Bool,fun k=>⟨[(0,At0 g),(2,At0 r)],[]⟩,fun k X=>s.length+1<=k.1+k.2.1/\k.2.1<=s.length/\zcH s (k.1+1) k.2.1 k.2.2=zcH s (s.length+2) a op/\ScV X g s k.2.1 k.2.2/\w.grownBy X (some g)/\X.heap[r]?=some (.cells (tokE.enc zTok).toArray 311 (0,0)),
  fun k=>s.length-k.2.1,(s.length+1,a,op),⟨.cons rfl (.cons (by rw [hr];rfl) .nil),rfl⟩,⟨by omega,ha,rfl,by subst hW0;exact h0,by subst hW0;exact zag hb0,by subst hW0;exact f0⟩,?_⟩
 clear hW0 hb0 f0 h0 W0;rintro⟨f,k,o⟩ X ⟨hf,hk,hn,hX,gX,fX⟩;dsimp only at hf hk hn hX gX fX ⊢;have fillR:∀ (t:Tok) (Y:World),Y.heap[r]?=some (.cells (tokE.enc zTok).toArray 311 (0,0))->∀ (K:World->Prop),(∀ R,R.heap[r]?=some (.cells (tokE.enc t).toArray 311 (0,0))->Y.grownBy R (some r)->K R) ->
   SatR ((storeVar 311 ⟨r,0,none⟩ (.agg (tokE.enc t).toArray)).run Tryz.prog Y) fun _ w'=>K w':=fun t Y fY K q =>
  zao (v := .agg (tokE.enc t).toArray) k311 fY rfl rfl rfl (q _ (zal fY) (zaL Y _ _))
 have keepR:∀ {A B:World},A.grownBy B (some g)->A.heap[r]?=some (.cells (tokE.enc zTok).toArray 311 (0,0))->B.heap[r]?=some (.cells (tokE.enc zTok).toArray 311 (0,0)):=fun hg hA=>(hg.block _ (hlt hA) (fun e=>by simp only [Jf] at e;omega)).trans hA;have keepS:∀ {A B:World} {a:Nat} {o:Bool} {q:Nat},A.grownBy B (some q)->g≠q->ScV A g s a o->ScV B g s a o:=fun hg hq hA=>(hg.block _ (hlt hA) (fun e=>hq (by simpa using e))).trans hA;refine cmo (zr9 hX hk hs) ?_;rintro e Y ⟨⟨v,rfl⟩,hY,gY⟩;have hp:=zmv (s:=s) hk;have hpk:=zmw (s:=s) (a:=k);have fY:=keepR gY fX;have gwY:=zaf gX gY;refine cmo (znJ hY.cells (hlt hY)) ?_;rintro e Z ⟨rfl,hbZ⟩;have hZ:=hY.below hbZ;have gwZ:=zhY gwY hbZ;have fZ:=zab hbZ fY;refine biE (fun hc=>?_) fun hc=>?_
 ·have hc:zcb s (zaG s k)=false:=by
   have h1:(!zcb s (zaG s k))=true:=hc;simpa using h1
  have hl:zaG s k<s.length:=by
   by_cases h1:zaG s k<s.length
   ·exact h1
   ·rw [zh9 (by omega)] at hc;cases hc
  rw [zd3 hl] at hc;have hc:=dF hc;rw [zkt hl hc] at hn;refine zkh hZ true fun U hU gU sU=>?_;have gwU:=zaf gwZ gU;have fU:=keepR gU fZ;refine cmo (zp1 hU hl hs) ?_;rintro e V ⟨rfl,hV,gV⟩;have gwV:=zaf gwU gV;exact fillR _ V (keepR gV fU) _ fun R fR gR=>⟨_,rfl,zaa fR,_,_,_,true,rfl,fun _=>hn.symm,fun h=>(by cases h),(znf hl _).2,keepS gR (by omega) hV,zgn gwV gR (by omega)⟩
 have hc:zcb s (zaG s k)=true:=by
  have h1:(!zcb s (zaG s k))=false:=hc;simpa using h1
 refine⟨_,zac hZ.cells (i:=1) rfl,tokE.enc ⟨4,[],zaG s k⟩,rfl,zak (X:=Z) (v := .agg (tokE.enc ⟨4,[],zaG s k⟩).toArray) k311 rfl rfl rfl fun U hbU fU4 sU=>?_⟩;have fU4:U.heap[Z.heap.size]?=some (.cells (tokE.enc ⟨4,[],zaG s k⟩).toArray 311 (0,0)):=fU4;have hU:=hZ.below hbU;have gwU:=zhY gwZ hbU;have fU:=zab hbU fZ;have hzs:r<Z.heap.size:=hlt fZ;refine cmo (zkp hU.cells) ?_;rintro e V ⟨rfl,hbV⟩;have hV:=hU.below hbV;have gwV:=zhY gwU hbV;have fV:=zab hbV fU;have fV4:=zab hbV fU4;refine DrawE.ord [17] [0,1,2,3,4,5,6,7,8,9,10,11,12,13,14,15,16,17] (by kernel_rfl) ?_;have hVd:ScV V.drew g s (zaG s k) o:=hV;refine⟨_,zac hVd.cells (i:=1) rfl,(zaG s k+1:Nat),(zaj (by omega)).trans (by omega),_,zac hVd.cells (i:=0) rfl,zqy ⟨Ja _ _,?_⟩⟩;have hmin:(if ((s.length:Nat):Int)<((zaG s k+1:Nat):Int) then ((s.length:Nat):Int) else ((zaG s k+1:Nat):Int))=((min (zaG s k+1) s.length:Nat):Int):=by
  split <;> omega
 have e5:Value.int .i64 (if (((bs s).size:Nat):Int)<((zaG s k+1:Nat):Int) then (((bs s).size:Nat):Int) else ((zaG s k+1:Nat):Int))=i64 (min (zaG s k+1) s.length:Nat):=by
  rw [show (bs s).size=s.length from rfl,hmin];rfl
 rw [e5];refine zgP hVd (min (zaG s k+1) s.length) fun R hR gR sR=>?_;have gwR:=zaf (zaf gwV (zag (Ja _ V).drew)) gR;have fR:=keepR gR (hdr fV);have fR4:R.heap[Z.heap.size]?=some (.cells (tokE.enc ⟨4,[],zaG s k⟩).toArray 311 (0,0)):=(gR.block _ (hlt (hdr fV4)) (fun e=>by simp only [Jf] at e;omega)).trans (hdr fV4);refine⟨_,zac (zaa hR) (i:=2) rfl,biE (fun ho=>?_) fun ho=>?_⟩
 ·have ho:o=true:=ho;subst ho;rw [zhE hc] at hn;refine zkh hR false fun T hT gT sT=>?_;have gwT:=zaf gwR gT;have fT:=keepR gT fR;have fT4:T.heap[Z.heap.size]?=some (.cells (tokE.enc ⟨4,[],zaG s k⟩).toArray 311 (0,0)):=(gT.block _ (hlt fR4) (fun e=>by simp only [Jf] at e;omega)).trans fR4;exact⟨_,rfl,zaa fT4,hlt fT4,fillR ⟨4,[],zaG s k⟩ T fT _ fun L fL gL=>⟨_,rfl,zaa fL,_,_,_,true,rfl,fun _=>hn.symm,fun h=>(by cases h),Nat.min_le_right _ _,keepS gL (by omega) hT,zgn gwT gL (by omega)⟩⟩
 ·have ho:o=false:=ho;subst ho;refine biE (fun h5=>?_) fun h5=>?_
  ·have h5:s.length<=zaG s k:=dT h5;rw [ziM h5] at hn;exact⟨tokE.enc zTok,rfl,fillR zTok R fR _ fun L fL gL=>⟨_,rfl,zaa fL,_,_,_,false,rfl,fun h=>(by cases h),fun _=>hn.symm,Nat.min_le_right _ _,keepS gL (by omega) hR,zgn gwR gL (by omega)⟩⟩
  ·have h5:¬ s.length<=zaG s k:=dF h5;have hl:zaG s k<s.length:=by omega
   have h2:clsL s[zaG s k]=2:=by rw [zd3 hl] at hc;exact dT hc
   rw [ziN hl h2] at hn;have hmn:min (zaG s k+1) s.length=zaG s k+1:=Nat.min_eq_left (by omega);obtain⟨f',rfl⟩:∃ f',f=f'+1:=⟨f-1,by omega⟩;exact⟨(f',min (zaG s k+1) s.length,false),(cvE rfl rfl),⟨by show _<=f'+min _ _;omega,Nat.min_le_right _ _,hn,hR,gwR,fR⟩,by show s.length-min _ _<s.length-k;omega⟩
def bOp (op:Bool):Nat:=if op then 1 else 0
theorem zlh {s:List UInt8} {f a a':Nat} {op op':Bool} {t:Tok} (h:zcH s (f+1) a op=some (t,a',op')) :
  (∃ hl:zaG s a<s.length,t=tokL s (zaG s a) s[zaG s a]/\a'=endL s (zaG s a) s[zaG s a]/\op'=true)\/(op=true/\t=⟨4,[],zaG s a⟩/\a'=min (zaG s a+1) s.length/\op'=false) \/
   (op=false/\zaG s a<s.length/\zcH s f (min (zaG s a+1) s.length) false=some (t,a',op')):=by
 by_cases hp:zaG s a<s.length
 ·by_cases h2:clsL s[zaG s a]=2
  ·cases op with
   | true =>
    rw [zhE (by rw [zd3 hp];exact Ka h2)] at h;simp only [Jf,Ki] at h;exact .inr (.inl ⟨rfl,h.1.symm,h.2.1.symm,h.2.2.symm⟩)
   | false =>
    rw [ziN hp h2] at h;exact .inr (.inr ⟨rfl,hp,h⟩)
  ·rw [zkt hp h2] at h;simp only [Jf,Ki] at h;exact .inl ⟨hp,h.1.symm,h.2.1.symm,h.2.2.symm⟩
 ·cases op with
  | true =>
   rw [zhE (zh9 (by omega))] at h;simp only [Jf,Ki] at h;exact .inr (.inl ⟨rfl,h.1.symm,h.2.1.symm,h.2.2.symm⟩)
  | false=>rw [ziM (by omega)] at h;cases h
theorem zeA {s:List UInt8} {t:Tok} {a':Nat} {op':Bool}:∀ {f a:Nat} {op:Bool},zcH s f a op=some (t,a',op')->a<=s.length ->
  a'<=s.length/\2*(s.length-a')+bOp op'<2*(s.length-a)+bOp op/\(t.kind=3->t.text≠[])/\t.text.length<=s.length
 | 0,_,_,h,_=>by cases h
 | f+1,a,op,h,ha=>by
  have hpa:=zmw (s:=s) (a:=a);have hpl:=zmv ha;rcases zlh h with ⟨hl,rfl,rfl,rfl⟩ | ⟨rfl,rfl,rfl,rfl⟩ | ⟨rfl,hl,h'⟩
  ·obtain⟨e1,e2⟩:=znf hl s[zaG s a];refine⟨e2,?_,fun _=>?_,?_⟩
   ·have:bOp true=1:=rfl;omega
   ·intro he;have h1:((s.drop (zaG s a)).take (endL s (zaG s a) s[zaG s a]-zaG s a)).length=0:=by
     have:(tokL s (zaG s a) s[zaG s a]).text=[]:=he;exact congrArg List.length this
    rw [JD,Ks] at h1;omega
   ·show ((s.drop (zaG s a)).take _).length<=_;rw [JD,Ks];omega
  ·refine⟨Nat.min_le_right _ _,?_,fun h=>(by cases h),Jh _⟩;have h1:bOp true=1:=rfl;have h0:bOp false=0:=rfl;omega
  ·obtain⟨h1,h2,h3⟩:=zeA h' (Nat.min_le_right _ _);refine⟨h1,?_,h3⟩;omega
theorem zig {s:List UInt8} {f a a':Nat} {op op':Bool} {t:Tok} (h:zcH s (s.length+2) a op=some (t,a',op')):zeV s (f+1) a op=t::zeV s f a' op':=by
 show (match zcH s (s.length+2) a op with
  | some (t,a',op')=>t::zeV s f a' op'
  | none=>[])=_
 rw [h]
theorem zif {s:List UInt8} {f a:Nat} {op:Bool} (h:zcH s (s.length+2) a op=none):zeV s (f+1) a op=[]:=by
 show (match zcH s (s.length+2) a op with
  | some (t,a',op')=>t::zeV s f a' op'
  | none=>[])=_
 rw [h]
def StT (pre:List Tok) (vs:List Value) (_:World):Prop:=∃ t,pre.getLast?=some t/\vs=[.agg (tokE.enc t).toArray,i64 (zbC t)]
theorem zn9 {g:Nat} {w:World}:Calls Tryz.prog 238 #[At0 g] w fun e w'=>e = .returned (.func (.func 270) #[] #[.pointer (some ⟨w.heap.size,0,none⟩)])/\w'=w.alloc (.cells #[At0 g] 354):=by
 refine cofE 4 [At0 g] Tryz.func238 ?_;exact⟨rfl,rfl⟩
theorem zlQ {g bx:Nat} {s:List UInt8} {W0:World} (h:ScV W0 g s 0 false) (hbx:W0.heap[bx]?=some (.cells #[At0 g] 354 (0,0))) (hne:bx≠g) (hs:s.length<=140737488351232) :
  ztb Tryz.prog 270 [At0 bx] (zbr s) W0 (fun k=>k=bx) (fun k=>k=g) StT:=by
 intro yl Fp J Jx W hsz hrd hrf hJ hJx hy h0;have hbW:W.heap[bx]?=some (.cells #[At0 g] 354 (0,0)):=(hrd bx (.inl rfl)).trans hbx;have hgW:ScV W g s 0 false:=(hrd g (.inr rfl)).trans h;have hbs:bx<W0.heap.size:=hlt hbx;have hgs:g<W0.heap.size:=hlt h;refine cofE 23 [.func (.yield yl) #[] #[],At0 bx] Tryz.func270 ?_
 let Inv:List Tok->World->Prop:=fun pre X=>J pre X/\W.heap.size<=X.heap.size/\X.heap[bx]?=some (.cells #[At0 g] 354 (0,0))/\¬ Fp X bx
 have stepG:∀ pre X Y,Inv pre X->X.grownBy Y (some g)->Inv pre Y/\∀ k,Fp Y k->Fp X k:=fun pre X Y ⟨h1,h2,h3,h4⟩ hg=>by
  have hst:StepO W.heap.size (fun k=>k=g) Fp X Y:=⟨hg.os,hg.tape,hg.output,hg.size,fun k hk hf=>hg.block k hk (fun e=>by
   have e:g=k:=(by simpa using e:k=g).symm;rcases hf with hf | hf
   ·exact hf.2 e.symm
   ·exact (hJ.lt _ _ _ h1 hf).2 e.symm)⟩
  obtain⟨j1,j2⟩:=hJ.step _ _ _ h1 hst;refine⟨⟨j1,Jj h2 hg.size,(hg.block _ (hlt h3) (fun e=>hne (by simpa using e))).trans h3,fun hf=>h4 (j2 _ hf)⟩,j2⟩
 have stepB:∀ pre X Y,Inv pre X->Bw X Y->Inv pre Y/\∀ k,Fp Y k->Fp X k:=fun pre X Y hI hb=>stepG pre X Y hI (zag hb);have I0:Inv [] W:=⟨h0,Jb _,hbW,hrf bx rfl⟩;refine⟨_,zac (zaa hbW) (i:=0) rfl,cmo (zpy hgW (Jh _) hs) ?_⟩;rintro e Y ⟨t,a,op,ok,rfl,hok,hno,ha,hY,gY⟩;obtain⟨I1,_⟩:=stepG [] W Y I0 gY;refine zak (X:=Y) (v := .agg (tokE.enc t).toArray) k311 rfl rfl rfl fun Z hbZ fZ sZ=>?_;have fZ:Z.heap[Y.heap.size]?=some (.cells (tokE.enc t).toArray 311 (0,0)):=fZ;obtain⟨I2,q2⟩:=stepB [] Y Z I1 hbZ;refine⟨List Tok×Nat×Nat×Bool×Bool×Tok×Nat,fun q=>⟨[(0,.func (.yield yl) #[] #[]),(1,At0 bx),(3,.pointer (some ⟨q.2.2.2.2.2.2,0,none⟩)),(4,.bool q.2.2.2.2.1)],[]⟩,
  fun q X=>Inv q.1 X/\(q.2.2.2.2.1=true->zbr s=q.1++q.2.2.2.2.2.1::zeV s q.2.1 q.2.2.1 q.2.2.2.1)/\(q.2.2.2.2.1=false->zbr s=q.1)/\(q.2.2.2.2.1=true->2*(s.length-q.2.2.1)+bOp q.2.2.2.1<q.2.1)/\q.2.2.1<=s.length/\ScV X g s q.2.2.1 q.2.2.2.1 /\
   X.heap[q.2.2.2.2.2.2]?=some (.cells (tokE.enc q.2.2.2.2.2.1).toArray 311 (0,0))/\W.heap.size<=q.2.2.2.2.2.2/\¬ Fp X q.2.2.2.2.2.2/\(q.2.2.2.2.1=true->(q.2.2.2.2.2.1.kind=3->q.2.2.2.2.2.1.text≠[])/\q.2.2.2.2.2.1.text.length<=s.length),
  fun q=>q.2.1,([],2*s.length+2,a,op,ok,t,Y.heap.size),(cvE rfl rfl),⟨I2,?_,?_,?_,ha,hY.below hbZ,fZ,gY.size,?_,?_⟩,?_⟩
 ·intro h1;exact zig (hok h1)
 ·intro h1;exact zif (hno h1)
 ·intro h3;have:=(zeA (hok h3) (Jh _)).2.1;have h0:bOp false=0:=rfl;dsimp only;omega
 ·intro hf;have h9:Y.heap.size<Y.heap.size:=(hJ.lt _ _ _ I1.1 (q2 _ hf)).1;omega
 ·intro h1;exact (zeA (hok h1) (Jh _)).2.2
 clear I2 q2 fZ hbZ sZ I1 gY hY hok hno ha;rintro⟨pre,f,a,op,ok,t,tb⟩ X ⟨hI,h1,h2,hf,ha,hX,ft,htb,hft,hgd⟩;dsimp only at hI h1 h2 hf ha hX ft htb hft hgd ⊢;refine biE (fun hok=>?_) fun hok=>?_
 ·have hok:ok=true:=hok;subst hok;have h1:=h1 rfl;have hf:=hf rfl;obtain⟨g1,g2⟩:=hgd rfl;have hpre:(pre++[t]) <+: zbr s:=⟨zeV s f a op,by rw [h1];simp⟩;refine DrawE.ord [4] [0,1,2,3,4,5] (by kernel_rfl) ⟨_,rfl,zaa (hdr ft),hlt (hdr ft),_,rfl,zaa (hdr ft),hlt (hdr ft),cmo (zqL t g1 (by omega) X.drew) ?_⟩;rintro e U ⟨rfl,hbU⟩;refine⟨hbU,?_⟩;have hXU:Bw X U:=(Ja _ X).drew.trans hbU;obtain⟨IU,qU⟩:=stepB pre X U hI hXU;have fU:=zab hXU ft;have hU:=hX.below hXU;have hftU:¬ Fp U tb:=fun h=>hft (qU _ h);refine YieldR.mono (hy pre t _ U IU.1 ⟨t,by simp,rfl⟩ hpre) ?_;rintro v V (⟨rfl,hJV,hKV⟩ | ⟨rfl,hJV⟩)
  ·refine Jn (fun h=>by cases h) (fun _=>?_);have IU':=IU;obtain⟨_,iu2,iu3,iu4⟩:=IU';have hUs:=hKV.size;have hgF:¬ Fp U g:=fun h=>(hJ.lt _ _ _ IU.1 h).2 rfl;have hbV:V.heap[bx]?=_:=(hKV.same bx (hlt iu3) iu4).trans iu3;have hV:ScV V g s a op:=(hKV.same g (hlt hU) hgF).trans hU;have fV:=(hKV.same tb (hlt fU) hftU).trans fU;have nF:∀ k,k<U.heap.size->¬ Fp U k->¬ Fp V k:=fun k hk h1 h2=>by
    rcases hKV.fp k h2 with h3 | h3
    ·exact h1 h3
    ·omega
   have IV:Inv (pre++[t]) V:=⟨hJV,by omega,hbV,nF bx (hlt iu3) iu4⟩;refine⟨_,rfl,zaa fV,hlt fV,zak (X:=V) (v := .agg (tokE.enc t).toArray) k311 rfl rfl rfl fun R hbR fR sR=>?_⟩;have fR:R.heap[V.heap.size]?=some (.cells (tokE.enc t).toArray 311 (0,0)):=fR;obtain⟨IR,qR⟩:=stepB (pre++[t]) V R IV hbR;have hnR:¬ Fp R V.heap.size:=fun h=>by have:=(hJ.lt _ _ _ IV.1 (qR _ h)).1;omega
   refine⟨_,zac (zaa IR.2.2.1) (i:=0) rfl,cmo (zpy (hV.below hbR) ha hs) ?_⟩;rintro e L ⟨t',a',op',ok',rfl,hok',hno',ha',hL,gL⟩;obtain⟨IL,qL⟩:=stepG (pre++[t]) R L IR gL;have hVs:W.heap.size<=V.heap.size:=IV.2.1;have hgV:g≠V.heap.size:=by omega
   have hbV2:bx≠V.heap.size:=by omega
   have fL:L.heap[V.heap.size]?=some (.cells (tokE.enc t).toArray 311 (0,0)):=(gL.block _ (hlt fR) (fun e=>hgV (by simpa using e.symm))).trans fR;refine zao (v := .agg (tokE.enc t').toArray) k311 fL rfl rfl rfl ?_;obtain⟨f',rfl⟩:∃ f',f=f'+1:=⟨f-1,by omega⟩;have hnL:¬ Fp L V.heap.size:=fun h=>hnR (qL _ h);have hst:StepO W.heap.size (fun k=>k=g) Fp L (L.setRow V.heap.size (Value.agg (tokE.enc t').toArray).cells):=⟨rfl,rfl,rfl,by simp,fun k hk hf=>zam (fun e=>by
    subst e;rcases hf with hf | hf
    ·omega
    ·exact hnL hf)⟩
   obtain⟨j1,j2⟩:=hJ.step _ _ _ IL.1 hst;refine⟨(pre++[t],f',a',op',ok',t',V.heap.size),(cvE rfl rfl),⟨⟨j1,by simp;exact IL.2.1,(zam hbV2).trans IL.2.2.1,fun h=>IL.2.2.2 (j2 _ h)⟩,?_,?_,?_,ha',(zam hgV).trans hL,zal fL,hVs,fun h=>hnL (j2 _ h),?_⟩,by show f'<f'+1;omega⟩
   ·intro h3;rw [h1];show pre++t::zeV s (f'+1) a op=(pre++[t])++_;rw [zig (hok' h3)];simp
   ·intro h3;rw [h1];show pre++t::zeV s (f'+1) a op=pre++[t];rw [zif (hno' h3)]
   ·intro h3;have:=(zeA (hok' h3) ha).2.1;dsimp only;omega
   ·intro h3;exact (zeA (hok' h3) ha).2.2
  ·exact Jn (fun _=>Jn ⟨_,rfl⟩ (.inr ⟨_,hpre,hJV⟩)) (fun h=>by cases h)
 ·have hok:ok=false:=hok;subst hok;have h2:=h2 rfl;exact⟨⟨_,rfl⟩,.inl (by rw [h2];exact hI.1)⟩
def zgh (s:List UInt8):Bool:=decide (s.length<=16384)&&(zbr s).all (fun t=>decide (zbC t=0))
theorem zj3 {s:List UInt8}:∀ {f a:Nat} {op:Bool},(zeV s f a op).length<=f
 | 0,_,_=>Jb _
 | f+1,a,op=>by
  unfold zeV
  split
  ·exact Nat.succ_le_succ zj3
  ·exact Jh _
def FpX (L:Nat) (X:World) (k:Nat):Prop:=k=L\/k=L+1\/k=L+2\/∃ a n cap,X.heap[L]?=some (.cells #[.slice (some a) n cap] 306 (0,0))/\k=a.block
structure ResX (L:Nat) (X:World) (v:Value) (pl er:Int):Prop where
 l:X.heap[L]?=some (.cells #[v] 306 (0,0))
 p:X.heap[L+1]?=some (.cells #[i64 pl] 3 (0,0))
 e:X.heap[L+2]?=some (.cells #[i64 er] 42 (0,0))
def JX (w:World) (L B:Nat) (pre:List Tok) (X:World):Prop:=Bw w X/\(∀ t∈pre,zbC t=0)/\∃ p cap,ResX L X (.slice p pre.length cap) 0 0/\OwnS tokE 311 B X p cap pre
def JxX (w:World) (L:Nat) (pre:List Tok) (X:World):Prop:=Bw w X/\(∃ t∈pre,zbC t≠0)/\∃ pl er,ResX L X (.slice none 0 0) pl er/\er≠0
theorem FpX.row {L:Nat} {X:World} {p:Option Addr} {n cap:Nat} {pl er:Int} (h:ResX L X (.slice p n cap) pl er) {k:Nat} (hf:FpX L X k):k=L\/k=L+1\/k=L+2\/∃ a,p=some a/\k=a.block:=by
 rcases hf with hf | hf | hf | ⟨a,n',cap',h1,h2⟩
 ·exact .inl hf
 ·exact .inr (.inl hf)
 ·exact .inr (.inr (.inl hf))
 ·have:=h.l;rw [h1] at this;simp at this;exact .inr (.inr (.inr ⟨a,this.1.symm,h2⟩))
theorem ResX.same {L:Nat} {A B:World} {v:Value} {pl er:Int} (h:ResX L A v pl er) (hs:∀ k,k=L\/k=L+1\/k=L+2->B.heap[k]?=A.heap[k]?):ResX L B v pl er :=
 ⟨(hs L (.inl rfl)).trans h.l,(hs _ (.inr (.inl rfl))).trans h.p,(hs _ (.inr (.inr rfl))).trans h.e⟩
theorem JX.iter {w:World} {L B n0 g:Nat} (hw:w.heap.size<=L) (hL:L+2<g) (hg:g<n0) (hB:B=n0):IterJO n0 (fun k=>k=g) (FpX L) (JX w L B):=by
 subst hB;refine⟨fun pre A C ⟨hb,hf,p,cap,hr,ho⟩ hs=>?_,fun pre A k ⟨hb,hf,p,cap,hr,ho⟩ hk=>?_⟩
 ·have hr':ResX L C (.slice p pre.length cap) 0 0:=hr.same fun k hk=>hs.same k (by rcases hk with rfl | rfl | rfl;exact hlt hr.l;exact hlt hr.p;exact hlt hr.e) (.inl ⟨by omega,by omega⟩);have hrow:∀ a,p=some a->C.heap[a.block]?=A.heap[a.block]?:=fun a ha=>by
   rcases ho.inv with ⟨rfl,_⟩ | ⟨g',cur,rfl,_,hg',_⟩
   ·cases ha
   ·cases ha
    exact hs.same _ (hlt hg') (.inr (.inr (.inr (.inr ⟨_,_,_,hr.l,rfl⟩))))
  refine⟨⟨⟨hs.os.trans hb.os,hs.tape.trans hb.tape,hs.output.trans hb.output,Jj hb.size hs.size,fun k hk=>(hs.same k (nL hk hb.size) (.inl ⟨by omega,by omega⟩)).trans (hb.block k hk)⟩,hf,p,cap,hr',ho.same hrow⟩,fun k hk=>?_⟩;rcases FpX.row hr' hk with rfl | rfl | rfl | ⟨a,rfl,rfl⟩
  ·exact .inl rfl
  ·exact .inr (.inl rfl)
  ·exact .inr (.inr (.inl rfl))
  ·exact .inr (.inr (.inr ⟨_,_,_,hr.l,rfl⟩))
 ·rcases FpX.row hr hk with rfl | rfl | rfl | ⟨a,rfl,rfl⟩
  ·exact⟨hlt hr.l,by omega⟩
  ·exact⟨hlt hr.p,by omega⟩
  ·exact⟨hlt hr.e,by omega⟩
  ·rcases ho.inv with ⟨h,_⟩ | ⟨g',cur,h,hB,hg',_⟩
   ·cases h
   ·cases h
    exact⟨hlt hg',by show ¬ g'=g;omega⟩
theorem JxX.iter {w:World} {L n0 g:Nat} (hw:w.heap.size<=L) (hL:L+2<g) (hg:g<n0):IterJO n0 (fun k=>k=g) (FpX L) (JxX w L):=by
 refine⟨fun pre A C ⟨hb,hf,pl,er,hr,he⟩ hs=>?_,fun pre A k ⟨hb,hf,pl,er,hr,he⟩ hk=>?_⟩
 ·have hr':ResX L C (.slice none 0 0) pl er:=hr.same fun k hk=>hs.same k (by rcases hk with rfl | rfl | rfl;exact hlt hr.l;exact hlt hr.p;exact hlt hr.e) (.inl ⟨by omega,by omega⟩);refine⟨⟨⟨hs.os.trans hb.os,hs.tape.trans hb.tape,hs.output.trans hb.output,Jj hb.size hs.size,fun k hk=>(hs.same k (nL hk hb.size) (.inl ⟨by omega,by omega⟩)).trans (hb.block k hk)⟩,hf,pl,er,hr',he⟩,fun k hk=>?_⟩;rcases FpX.row hr' hk with rfl | rfl | rfl | ⟨a,h,_⟩
  ·exact .inl rfl
  ·exact .inr (.inl rfl)
  ·exact .inr (.inr (.inl rfl))
  ·cases h
 ·rcases FpX.row hr hk with rfl | rfl | rfl | ⟨a,h,_⟩
  ·exact⟨hlt hr.l,by omega⟩
  ·exact⟨hlt hr.p,by omega⟩
  ·exact⟨hlt hr.e,by omega⟩
  ·cases h
abbrev nl0:Value := .slice none 0 0
theorem zt8 (s:List UInt8) (hs:s.length<=140737488351232) (w:World) :
  Calls Tryz.prog 221 #[strV s] w fun e w'=>∃ p cap n pl er,e = .returned (.tuple #[.slice p n cap,i64 pl,i64 er])/\(zgh s=true->er=0/\n=(zbr s).length/\SlR tokE w' p (zbr s))/\(zgh s=false->er≠0)/\Bw w w':=by
 refine cofM 27 [strV s] (.c .p (.c .p .p)) Tryz.func221 ?_;obtain⟨L,hL⟩:=nm (w.heap.size);have z1:(w.alloc (.cells #[nl0] 306)).heap.size=L+1:=by rw [wz,hL]
 have z2:((w.alloc (.cells #[nl0] 306)).alloc (.cells #[i64 0] 3)).heap.size=L+2:=by rw [wz,z1]
 obtain⟨W0,hW0⟩:=nm (((w.alloc (.cells #[nl0] 306)).alloc (.cells #[i64 0] 3)).alloc (.cells #[i64 0] 42));have hb0:Bw w W0:=by rw [hW0];exact (((zba _ _)).alloc (by simp) _).alloc (by rw [z2];omega) _
 have hs0:W0.heap.size=L+3:=by rw [hW0,wz,z2]
 have r0:ResX L W0 nl0 0 0:=by
  rw [hW0];refine⟨?_,?_,?_⟩
  ·rw [hL];exact hold _ (hold _ (hnew w _))
  ·rw [<- z1];exact hold _ (hnew _ _)
  ·rw [<- z2];exact hnew _ _
 have p1:some (Value.pointer (some ⟨(w.alloc (.cells #[nl0] 306)).heap.size,0,none⟩))=some (At0 (L+1)):=by rw [z1]
 have p2:some (Value.pointer (some ⟨((w.alloc (.cells #[nl0] 306)).alloc (.cells #[i64 0] 3)).heap.size,0,none⟩))=some (At0 (L+2)):=by rw [z2]
 have put3:∀ (X:World) (v0:Value) (a0 b0:Int),ResX L X v0 a0 b0->∀ (pl er:Int) (K:World->Prop),(∀ Y,ResX L Y (.slice none 0 0) pl er->Below w.heap.size X Y->X.heap.size=Y.heap.size->(∀ k,k≠L->k≠L+1->k≠L+2->Y.heap[k]?=X.heap[k]?)->K Y) ->
   SatR ((storeVar 306 ⟨L,0,none⟩ (.slice none 0 0)).run Tryz.prog X) fun _ Y1=>SatR ((storeVar 3 ⟨L+1,0,none⟩ (i64 pl)).run Tryz.prog Y1) fun _ Y2=>SatR ((storeVar 42 ⟨L+2,0,none⟩ (i64 er)).run Tryz.prog Y2) fun _ Y3=>K Y3:=by
  intro X v0 a0 b0 hr pl er K k;refine zao (v := .slice none 0 0) k306 hr.l rfl rfl rfl ?_;have q1:(X.setRow L (Value.slice none 0 0).cells).heap[L+1]?=some (.cells #[i64 a0] 3 (0,0)):=(zam (by omega)).trans hr.p;refine zao (v:=i64 pl) k3 q1 rfl rfl rfl ?_;have q2:((X.setRow L (Value.slice none 0 0).cells).setRow (L+1) (i64 pl).cells).heap[L+2]?=some (.cells #[i64 b0] 42 (0,0)):=(zam (by omega)).trans ((zam (by omega)).trans hr.e);refine zao (v:=i64 er) k42 q2 rfl rfl rfl (k _ ⟨?_,?_,zal q2⟩ ?_ (by simp) ?_)
  ·exact (zam (by omega)).trans ((zam (by omega)).trans (zal hr.l))
  ·exact (zam (by omega)).trans (zal q1)
  ·exact zah (zah (zah (Ja _ X) (by omega) _) (by omega) _) (by omega) _
  ·intro k h1 h2 h3;exact (zam h3).trans ((zam h2).trans (zam h1))
 refine⟨Unit,fun _=>⟨[(0,strV s),(2,At0 L),(3,At0 (L+1)),(4,At0 (L+2))],[]⟩,fun _ X=>W0=X,?_,?_⟩
 ·exact⟨(),⟨.cons rfl (.cons (by rw [hL];rfl) (.cons p1 (.cons p2 .nil))),rfl⟩,hW0⟩
 clear hW0 p1 p2 z1 z2;rintro _ _ rfl;refine⟨Unit,fun _=>⟨[(0,strV s),(2,At0 L),(3,At0 (L+1)),(4,At0 (L+2))],[]⟩,fun _ X=>s.length<=16384/\W0=X,?_,?_⟩
 ·refine biE (fun h=>?_) fun h=>?_
  ·have h:(16384:Int)<(s.length:Int):=dT h;have hno:zgh s=false:=by unfold zgh;rw [Kb (by omega)];rfl
   exact put3 W0 _ _ _ r0 0 3 _ fun Y hY hb hsz _=>⟨_,zac (zaa hY.l) (i:=0) rfl,_,zac (zaa hY.p) (i:=0) rfl,_,zac (zaa hY.e) (i:=0) rfl,none,0,0,0,3,rfl,fun h=>(by rw [hno] at h;cases h),fun _=>by decide,hb0.trans hb⟩
  ·have h:¬ (16384:Int)<(s.length:Int):=dF h;exact⟨(),(cvE rfl rfl),by omega,rfl⟩
 rintro _ _ ⟨hln,rfl⟩;refine⟨[strV s,i64 0],rfl,[strV s,i64 0,.bool false],rfl,zak (X:=W0) (v := .agg #[strV s,i64 0,.bool false]) k334 rfl rfl rfl fun V hbV fV sV=>?_⟩;have hV:ScV V W0.heap.size s 0 false:=fV;refine cmo zn9 ?_;rintro e W1 ⟨rfl,hW1⟩;have sW1:W1.heap.size=W0.heap.size+2:=by rw [hW1,wz,sV]
 have hb1:Bw V W1:=by rw [hW1];exact (zba _ _)
 have hbx:W1.heap[W0.heap.size+1]?=some (.cells #[.pointer (some ⟨W0.heap.size,0,none⟩)] 354 (0,0)):=by
  rw [hW1,<- sV];exact hnew V _
 have hg1:ScV W1 W0.heap.size s 0 false:=hV.below hb1;have hb01:Bw W0 W1:=zst hbV hb1;have hbw1:Bw w W1:=zst hb0 hb01;have r1:ResX L W1 nl0 0 0:=r0.same fun k hk=>hb01.block k (by omega);have hlen:(zbr s).length<=40000:=Jj zj3 (by omega);have hok1:(∀ t∈zbr s,zbC t=0)->zgh s=true:=fun h=>by
  unfold zgh;rw [Ka hln,Js,Je];exact fun t ht=>Ka (h t ht)
 have hok2:(∃ t∈zbr s,zbC t≠0)->zgh s=false:=fun ⟨t,ht,hf⟩=>by
  unfold zgh;rw [Ka hln,Js,List.all_eq_false];exact⟨t,ht,by simpa using hf⟩
 rw [sV];refine zr0 (sgOk _) rfl (lb := #[.pointer (some ⟨W0.heap.size+1,0,none⟩)]) rfl rfl (zlQ hg1 hbx (by omega) hs) (Jb _) (fun k hk=>⟨by rcases hk with rfl | rfl <;> omega,rfl⟩) (fun pre vs W ⟨t,_,h⟩=>by rw [h];rfl) (by decide)
  (FpX L) (JX w L W1.heap.size) (fun ex pre X=>ex = .ret/\JxX w L pre X) ?_ (JX.iter (by omega) (by omega) (by omega) rfl) (fun ex=>?_) ?_ ?_ ?_ ?_
 ·intro k hk hf;rcases FpX.row r1 hf with h | h | h | ⟨a,h,_⟩
  ·omega
  ·omega
  ·omega
  ·cases h
 ·have hJ:=JxX.iter (w:=w) (L:=L) (n0:=W1.heap.size) (g:=W0.heap.size) (by omega) (by omega) (by omega);exact⟨fun pre A C ⟨h1,h2⟩ hs=>⟨⟨h1,(hJ.step _ _ _ h2 hs).1⟩,(hJ.step _ _ _ h2 hs).2⟩,fun pre A k ⟨_,h2⟩ hf=>hJ.lt _ _ _ h2 hf⟩
 ·exact⟨hbw1,fun t ht=>(by cases ht),none,0,r1,.nil⟩
 ·intro yl pre x vs W hyl hpre hJ hst hfy hly;obtain⟨t,ht,rfl⟩:=hst;have ht:t=x:=by simpa using ht.symm
  subst ht;have hIt:=JX.iter (w:=w) (L:=L) (B:=W1.heap.size) (n0:=W1.heap.size) (g:=W0.heap.size) (by omega) (by omega) (by omega) rfl;refine zak (X:=W) (v := .agg (tokE.enc t).toArray) k311 rfl rfl rfl fun R hbR fR sR=>?_;have fR:R.heap[W.heap.size]?=some (.cells (tokE.enc t).toArray 311 (0,0)):=fR;obtain⟨jR,qR⟩:=hIt.step pre W R hJ (Step.of_below hbR).o;refine⟨rfl,Keeps.of_below hbR (fun k hk => .inl (qR k hk)),jR,?_⟩;rintro o W2 hW2 ⟨hbW,hfl,p,cap,hr,ho⟩ hF2;have f2:W2.heap[W.heap.size]?=some (.cells (tokE.enc t).toArray 311 (0,0)):=by rw [hW2,zai (by omega)];exact fR
  have s2:W2.heap.size=R.heap.size:=by rw [hW2];simp [World.putObj]
  have hLW:W1.heap.size<=W.heap.size:=by
   have:=hlt hr.l;obtain⟨hbW',_⟩:=hJ;omega
  refine biE (fun h=>?_) fun h=>?_
  ·have h:zbC t≠0:=by
    have h1:(!decide (zbC t=0))=true:=h;simpa using h1
   have hrd:ResX L W2.drew (.slice p pre.length cap) 0 0:=⟨hr.l,hr.p,hr.e⟩;have hd:W2.drew.heap.size=W2.heap.size:=rfl;have fin:∀ Y,ResX L Y (.slice none 0 0) t.pos (zbC t)->Below w.heap.size W2.drew Y->W2.drew.heap.size=Y.heap.size->(∀ k,k≠L->k≠L+1->k≠L+2->Y.heap[k]?=W2.drew.heap[k]?)->(Exit.ret=Exit.ret/\JxX w L (pre++[t]) Y)/\Keeps (FpX L) W2 Y:=fun Y hY hbY hsY hoY=>by
    have hbY2:Bw w Y:=hbW.trans ((Ja w.heap.size W2).drew.trans hbY);refine⟨⟨rfl,hbY2,⟨t,by simp,h⟩,_,_,hY,h⟩,hbY.os,hbY.tape,hbY.output,by rw [<- hsY,hd];exact Jb _,fun k hk hf=>hoY k (fun e=>hf (.inl e)) (fun e=>hf (.inr (.inl e))) (fun e=>hf (.inr (.inr (.inl e)))),fun k hk=>?_⟩;rcases FpX.row hY hk with h1 | h1 | h1 | ⟨a,h1,_⟩
    ·exact .inl (.inl h1)
    ·exact .inl (.inr (.inl h1))
    ·exact .inl (.inr (.inr (.inl h1)))
    ·cases h1
   refine DrawE.treeQ [3,4,5] (.op 0 (.op 2 (.alt (.op 3 (.op 1 (.op 4 (.op 5 .nil)))) (.op 1 (.op 3 (.op 4 (.op 5 .nil))))))) (by kernel_rfl) (Jn ?_ ?_)
   ·refine zao (v := .slice none 0 0) k306 hrd.l rfl rfl rfl ?_;have q0:(W2.drew.setRow L (Value.slice none 0 0).cells).heap[W.heap.size]?=some (.cells (tokE.enc t).toArray 311 (0,0)):=(zam (by omega)).trans (hdr f2);refine⟨_,zac (zaa q0) (i:=2) rfl,?_⟩;have q1:(W2.drew.setRow L (Value.slice none 0 0).cells).heap[L+1]?=some (.cells #[i64 0] 3 (0,0)):=(zam (by omega)).trans hrd.p;refine zao (v:=i64 t.pos) k3 q1 rfl rfl rfl ?_;have q2:((W2.drew.setRow L (Value.slice none 0 0).cells).setRow (L+1) (i64 t.pos).cells).heap[L+2]?=some (.cells #[i64 0] 42 (0,0)):=(zam (by omega)).trans ((zam (by omega)).trans hrd.e);refine zao (v:=i64 (zbC t)) k42 q2 rfl rfl rfl (fin _ ⟨?_,?_,zal q2⟩ ?_ (by simp) ?_)
    ·exact (zam (by omega)).trans ((zam (by omega)).trans (zal hrd.l))
    ·exact (zam (by omega)).trans (zal q1)
    ·exact zah (zah (zah (Ja _ W2.drew) (by omega) _) (by omega) _) (by omega) _
    ·intro k h1 h2 h3;exact (zam h3).trans ((zam h2).trans (zam h1))
   ·exact⟨_,zac (zaa (hdr f2)) (i:=2) rfl,put3 W2.drew _ _ _ hrd t.pos (zbC t) _ fin⟩
  ·have h:zbC t=0:=by
    have h1:(!decide (zbC t=0))=false:=h;simpa using h1
   refine⟨_,zac (zaa hr.l) (i:=0) rfl,_,rfl,zaa f2,hlt f2,⟨by decide,by decide,rfl⟩,tokE.enc t,zcS (tokE.len t) rfl,?_⟩;have hpl:pre.length+1<=40000:=by
    have:=hpre.length_le;simp at this;omega
   refine zbp (E:=tokE) (news:=[t]) (B:=W1.heap.size) Tryz.underlying306 k311 rfl rfl rfl (ho.alloc _) rfl (za2 tokE t) (by simp;omega) (by show pre.length+1<=_;omega) (by show (pre.length+1)*32<=_;omega) ?_;intro p3 cap3 W4 ho4 hg4 hb4 hat;have hL2:L<W2.heap.size:=hlt hr.l;have hr3:ResX L (W2.alloc (.cells (tokE.enc t).toArray 311)) (.slice p pre.length cap) 0 0:=⟨hold _ hr.l,hold _ hr.p,hold _ hr.e⟩;have hr4:ResX L W4 (.slice p pre.length cap) 0 0:=hr3.same fun k hk=>hb4.block k (by omega);refine zao (v := .slice p3 (pre++[t]).length cap3) k306 hr4.l rfl rfl rfl ?_;have hr5:ResX L (W4.setRow L (Value.slice p3 (pre++[t]).length cap3).cells) (.slice p3 (pre++[t]).length cap3) 0 0:=⟨zal hr4.l,(zam (by omega)).trans hr4.p,(zam (by omega)).trans hr4.e⟩;have hbB:Below w.heap.size W2 (W4.setRow L (Value.slice p3 (pre++[t]).length cap3).cells) :=
    zah (((Ja _ W2).alloc (by omega) _).trans (hb4.mono (by omega))) (by omega) _
   refine Jn ⟨hbW.trans hbB,fun u hu=>?_,p3,cap3,hr5,ho4.same fun a ha=>?_⟩ ⟨hbB.os,hbB.tape,hbB.output,hbB.size,fun k hk hf=>?_,fun k hk=>?_⟩
   ·rcases JM.1 hu with hu | hu
    ·exact hfl u hu
    ·simp only [Jl] at hu;rw [hu];exact h
   ·refine zam ?_;rcases ho4.inv with ⟨h1,_⟩ | ⟨g',_,h1,h2,_⟩
    ·rw [h1] at ha;cases ha
    ·rw [h1] at ha;cases ha;dsimp only;omega
   ·have h1:k≠L:=fun e=>hf (.inl e);rw [zam h1];refine (hg4.block k (by simp;omega) ?_).trans ?_
    ·intro e
     cases p with
     | none=>simp [Value.ownBlock] at e
     | some a =>
      simp only [Value.ownBlock,Jf] at e;exact hf (.inr (.inr (.inr ⟨a,_,_,hr.l,e⟩)))
    ·show (W2.heap.push _)[k]?=_;rw [Array.getElem?_push,JZ (Nat.ne_of_lt hk)]
   ·rcases FpX.row hr5 hk with h1 | h1 | h1 | ⟨a,ha,rfl⟩
    ·exact .inl (.inl h1)
    ·exact .inl (.inr (.inl h1))
    ·exact .inl (.inr (.inr (.inl h1)))
    ·rcases hat a ha with h1 | h1
     ·exact .inl (.inr (.inr (.inr ⟨a,_,_,h1▸hr.l,rfl⟩)))
     ·refine .inr ?_;rw [h1];simp
 ·intro D W hD hfD hJ hdef;obtain⟨hbW,hfl,p,cap,hr,ho⟩:=hJ;refine⟨_,zac (zaa hr.l) (i:=0) rfl,zao (v := .slice p (zbr s).length cap) k306 hr.l rfl rfl rfl ?_⟩;have q1:(W.setRow L (Value.slice p (zbr s).length cap).cells).heap[L+1]?=some (.cells #[i64 0] 3 (0,0)):=(zam (by omega)).trans hr.p;refine zao (v:=i64 0) k3 q1 rfl rfl rfl ?_;have q2:((W.setRow L (Value.slice p (zbr s).length cap).cells).setRow (L+1) (i64 0).cells).heap[L+2]?=some (.cells #[i64 0] 42 (0,0)):=(zam (by omega)).trans ((zam (by omega)).trans hr.e);refine zao (v:=i64 0) k42 q2 rfl rfl rfl ?_;obtain⟨S,hS⟩:=nm (((W.setRow L (Value.slice p (zbr s).length cap).cells).setRow (L+1) (i64 0).cells).setRow (L+2) (i64 0).cells);have rS:ResX L S (.slice p (zbr s).length cap) 0 0:=by
   rw [hS];exact⟨(zam (by omega)).trans ((zam (by omega)).trans (zal hr.l)),(zam (by omega)).trans (zal q1),zal q2⟩
  have bS:Below w.heap.size W S:=by rw [hS];exact zah (zah (zah (Ja _ W) (by omega) _) (by omega) _) (by omega) _
  have oS:∀ k,k≠L->k≠L+1->k≠L+2->S.heap[k]?=W.heap[k]?:=fun k h1 h2 h3=>by rw [hS];exact (zam h3).trans ((zam h2).trans (zam h1))
  have dS:S.heap[D]?=some (.deferred (some [])):=(oS D (by omega) (by omega) (by omega)).trans hdef;rw [<- hS];refine⟨_,rfl,dS,?_⟩;have rP:ResX L (S.putObj D (.deferred none)) (.slice p (zbr s).length cap) 0 0:=rS.same fun k hk=>zai (by omega);refine⟨_,zac (zaa rP.l) (i:=0) rfl,_,zac (zaa rP.p) (i:=0) rfl,_,zac (zaa rP.e) (i:=0) rfl,p,cap,(zbr s).length,0,0,rfl,fun _=>⟨rfl,rfl,?_⟩,fun h=>?_,zbj (hbW.trans bS) (by omega) _⟩
  ·exact (ho.same fun a ha=>by
    have hne:a.block≠L/\a.block≠L+1/\a.block≠L+2/\a.block≠D:=by
     rcases ho.inv with ⟨h1,_⟩ | ⟨g',_,h1,h2,h3,_⟩
     ·rw [h1] at ha;cases ha
     ·rw [h1] at ha;cases ha;refine⟨by dsimp only;omega,by dsimp only;omega,by dsimp only;omega,fun e=>?_⟩;have e:g'=D:=e;rw [e,hdef] at h3;cases h3
    exact (zai hne.2.2.2).trans (oS _ hne.1 hne.2.1 hne.2.2.1)).row
  ·rw [hok1 hfl] at h;cases h
 ·rintro D ex pre W hD hfD hpre ⟨rfl,hbW,⟨t,ht,hft⟩,pl,er,hr,her⟩ hdef;refine⟨_,rfl,hdef,?_⟩;have rP:ResX L (W.putObj D (.deferred none)) (.slice none 0 0) pl er:=hr.same fun k hk=>zai (by omega);refine⟨_,zac (zaa rP.l) (i:=0) rfl,_,zac (zaa rP.p) (i:=0) rfl,_,zac (zaa rP.e) (i:=0) rfl,none,0,0,pl,er,rfl,fun h=>?_,fun _=>her,zbj hbW (by omega) _⟩;rw [hok2 ⟨t,hpre.subset ht,hft⟩] at h;cases h
theorem zoT (s:List UInt8) (hs:s.length<=140737488351232) (w:World):CB 182 #[strV s] w (.bool (ze4 s)):=by
 refine cofE 34 [strV s] Tryz.func182 ?_;have hdef:ze4 s=(zgh s&&twoB (zbr s) s):=by
  unfold ze4 zgh;rw [Bool.and_assoc]
 refine cmo (zt8 s hs w) ?_;rintro e V ⟨p,cap,n,pl,er,rfl,h1,h2,hb⟩
 cases hk:zgh s with
 | false =>
  have her:=h2 hk;rw [hdef,hk,JJ];exact brN (by exact Kb her) (brF (brF ⟨rfl,hb⟩))
 | true =>
  obtain⟨rfl,rfl,hr⟩:=h1 hk;rw [hdef,hk,Js];refine brT (biE (fun h=>?_) fun h=>?_)
  ·have h:(zbr s).length=2:=by have h:((zbr s).length:Int)=2:=dT h;omega
   match hx:zbr s,h with
   | [t,u],_ =>
    rw [hx] at hr;obtain⟨b,o,rfl,hbb,hc⟩:=hr.at (i:=0) (by simp);have hc:=hc 0 (by simp);refine⟨0,rfl,(by show 0<2;omega),_,zac hc (i:=0) rfl,?_⟩;have kd:decide ((t.kind.toNat:Int)=1)=decide (t.kind=1):=(by rw [Kd];exact zbJ (y:=1));refine biE (fun h=>?_) fun h=>?_
    ·have h:decide (t.kind=1)=true:=kd.symm.trans h;exact⟨0,rfl,(by show 0<2;omega),_,zac hc (i:=1) rfl,_,fun w=>zax _ _ t.text s w,rb (by unfold twoB;simp only [h,Js]),hb⟩
    ·have h:decide (t.kind=1)=false:=kd.symm.trans h;exact⟨rb (by unfold twoB;simp only [h,JJ]),hb⟩
  ·have h:¬ (zbr s).length=2:=by have h:¬ ((zbr s).length:Int)=2:=dF h;omega
   refine brF ⟨rb ?_,hb⟩;have gen:∀ l:List Tok,¬ l.length=2->false=twoB l s:=fun l hl=>by
    match l,hl with
    | [],_=>rfl
    | [_],_=>rfl
    | [_,_],hl=>exact Kv rfl hl
    | _::_::_::_,_=>rfl
   exact gen _ h
theorem zta (s:List UInt8) (w:World):Calls Tryz.prog 240 #[strV s] w fun e w'=>e = .returned (.bool (zjC s))/\w=w':=by
 refine cofE 22 [strV s] Tryz.func240 ?_;refine⟨_,fun w=>zax _ _ s [116,101,115,116] w,?_⟩;refine biE (fun h=>?_) fun h0=>?_
 ·refine brE h ?_;exact⟨rb (JK.2 ⟨[116,101,115,116],by decide,h⟩).symm,rfl⟩
 refine⟨_,fun w=>zax _ _ s [105,110,105,116] w,?_⟩;refine biE (fun h=>?_) fun h1=>?_
 ·refine brE h ?_;exact⟨rb (JK.2 ⟨[105,110,105,116],by decide,h⟩).symm,rfl⟩
 refine⟨_,fun w=>zax _ _ s [116,104,114,101,97,100] w,?_⟩;refine biE (fun h=>?_) fun h2=>?_
 ·refine brE h ?_;exact⟨rb (JK.2 ⟨[116,104,114,101,97,100],by decide,h⟩).symm,rfl⟩
 refine⟨_,fun w=>zax _ _ s [115,111,109,101] w,?_⟩;refine biE (fun h=>?_) fun h3=>?_
 ·refine brE h ?_;exact⟨rb (JK.2 ⟨[115,111,109,101],by decide,h⟩).symm,rfl⟩
 refine⟨_,fun w=>zax _ _ s [110,111,110,101] w,?_⟩;refine biE (fun h=>?_) fun h4=>?_
 ·refine brE h ?_;exact⟨rb (JK.2 ⟨[110,111,110,101],by decide,h⟩).symm,rfl⟩
 refine⟨_,fun w=>zax _ _ s [97,108,108] w,?_⟩;refine biE (fun h=>?_) fun h5=>?_
 ·refine brE h ?_;exact⟨rb (JK.2 ⟨[97,108,108],by decide,h⟩).symm,rfl⟩
 refine⟨_,fun w=>zax _ _ s [97,99,113] w,?_⟩;refine biE (fun h=>?_) fun h6=>?_
 ·refine brE h ?_;exact⟨rb (JK.2 ⟨[97,99,113],by decide,h⟩).symm,rfl⟩
 refine⟨_,fun w=>zax _ _ s [114,101,108] w,?_⟩;refine biE (fun h=>?_) fun h7=>?_
 ·refine brE h ?_;exact⟨rb (JK.2 ⟨[114,101,108],by decide,h⟩).symm,rfl⟩
 refine⟨_,fun w=>zax _ _ s [115,119,97,112] w,?_⟩;refine biE (fun h=>?_) fun h8=>?_
 ·refine brE h ?_;exact⟨rb (JK.2 ⟨[115,119,97,112],by decide,h⟩).symm,rfl⟩
 refine⟨_,fun w=>zax _ _ s [102,101,116,99,104] w,?_⟩;refine biE (fun h=>?_) fun h9=>?_
 ·refine brE h ?_;exact⟨rb (JK.2 ⟨[102,101,116,99,104],by decide,h⟩).symm,rfl⟩
 refine⟨_,fun w=>zax _ _ s [99,97,115] w,?_⟩;refine biE (fun h=>?_) fun h10=>?_
 ·refine brE h ?_;exact⟨rb (JK.2 ⟨[99,97,115],by decide,h⟩).symm,rfl⟩
 refine⟨_,fun w=>zax _ _ s [102,101,110,99,101] w,?_⟩;refine biE (fun h=>?_) fun h11=>?_
 ·refine brE h ?_;exact⟨rb (JK.2 ⟨[102,101,110,99,101],by decide,h⟩).symm,rfl⟩
 refine⟨_,fun w=>zax _ _ s [108,111,97,100,115] w,?_⟩;refine biE (fun h=>?_) fun h12=>?_
 ·refine brE h ?_;exact⟨rb (JK.2 ⟨[108,111,97,100,115],by decide,h⟩).symm,rfl⟩
 refine⟨_,fun w=>zax _ _ s [115,116,111,114,101,115] w,?_⟩;refine biE (fun h=>?_) fun h13=>?_
 ·refine brE h ?_;exact⟨rb (JK.2 ⟨[115,116,111,114,101,115],by decide,h⟩).symm,rfl⟩
 refine⟨_,fun w=>zax _ _ s [115,107,105,112] w,?_⟩;refine biE (fun h=>?_) fun h14=>?_
 ·refine brE h ?_;exact⟨rb (JK.2 ⟨[115,107,105,112],by decide,h⟩).symm,rfl⟩
 refine⟨_,fun w=>zax _ _ s [105,102] w,?_⟩;refine biE (fun h=>?_) fun h15=>?_
 ·refine brE h ?_;exact⟨rb (JK.2 ⟨[105,102],by decide,h⟩).symm,rfl⟩
 refine⟨_,fun w=>zax _ _ s [116,114,117,101] w,?_⟩;refine biE (fun h=>?_) fun h16=>?_
 ·exact⟨rb (JK.2 ⟨[116,114,117,101],by decide,h⟩).symm,rfl⟩
 exact⟨rb (by unfold zjC zsn;simp only [List.any_cons,List.any_nil,h0,h1,h2,h3,h4,h5,h6,h7,h8,h9,h10,h11,h12,h13,h14,h15,h16];rfl),rfl⟩
theorem zs5 (s:List UInt8) (hs:s.length<=140737488351232) (w:World):Calls Tryz.prog 222 #[strV s] w fun e w'=>e = .returned (.bool (zhJ s))/\w=w':=by
 refine cofM 55 [strV s] (.s .p (.c .p (.s .p (.c .p .p)))) Tryz.func222 ?_;refine⟨Unit,fun _=>⟨[(0,strV s)],[]⟩,fun _ X=>(∃ c r,s=c::r/\r.length+1<=16/\clsL c=3/\zjC s=false)/\w=X,?_,?_⟩
 ·refine biE (fun h=>?_) fun h=>?_
  ·have h:(s.length:Int)<1:=dT h;have h0:s=[]:=JS (by omega);subst h0;refine brT ?_;refine brT ?_;refine brT ?_;exact⟨rfl,rfl⟩
  have h:¬ (s.length:Int)<1:=dF h;obtain⟨c,r,rfl⟩:∃ c r,s=c::r:=by
   cases s with
   | nil=>simp at h
   | cons c r=>exact⟨c,r,rfl⟩
  have hdef:zhJ (c::r)=(decide (r.length+1<=16)&&(decide (clsL c=3)&&(!zjC (c::r)&&(r.all zaY&&(!decide (c=114)||(decide (zbi r=0)||decide (zbi r<r.length))))))):=rfl;have hsz:(((bs (c::r)).size:Nat):Int)=(r.length+1:Nat):=rfl;refine biE (fun h2=>?_) fun h2=>?_
  ·have h2:(16:Int)<((r.length+1:Nat):Int):=dT h2;refine brT ?_;refine brT ?_;exact⟨rb (by rw [hdef,Kb (by omega)];rfl),rfl⟩
  have h2:¬ (16:Int)<((r.length+1:Nat):Int):=dF h2;refine⟨0,rfl,Nat.succ_pos _,c,rfl,?_⟩;refine cmo (zbK c _) ?_;rintro e _ ⟨rfl,rfl⟩;refine biE (fun h3=>?_) fun h3=>?_
  ·have h3:¬ clsL c=3:=by
    have h1:(!decide ((clsL c:Int)=3))=true:=h3;simp at h1;omega
   refine brT ?_;exact⟨rb (by rw [hdef,Kb h3];simp),rfl⟩
  have h3:clsL c=3:=by
   have h1:(!decide ((clsL c:Int)=3))=false:=h3;simp at h1;omega
  refine cmo (zta (c::r) _) ?_;rintro e _ ⟨rfl,rfl⟩;refine biE (fun h4=>?_) fun h4=>?_
  ·have h4:zjC (c::r)=true:=h4;exact⟨rb (by rw [hdef,h4];simp),rfl⟩
  ·exact⟨(),(cvE rfl rfl),⟨c,r,rfl,by omega,h3,h4⟩,rfl⟩
 rintro _ _ ⟨⟨c,r,rfl,h1,h3,h4⟩,rfl⟩;have hdef:zhJ (c::r)=(r.all zaY&&(!decide (c=114)||(decide (zbi r=0)||decide (zbi r<r.length)))):=by
  show (decide (r.length+1<=16)&&(decide (clsL c=3)&&(!zjC (c::r)&&(r.all zaY&&(!decide (c=114)||(decide (zbi r=0)||decide (zbi r<r.length)))))))=_;rw [Ka h1,Ka h3,h4];rfl
 rw [hdef];refine⟨Unit,fun _=>⟨[(0,strV (c::r)),(3,i64 (zbi r:Nat))],[]⟩,fun _ X=>r.all zaY=true/\w=X,?_,?_⟩
 ·refine⟨Nat,fun k=>⟨[(0,strV (c::r)),(3,i64 (zbi (r.take k):Nat)),(4,i64 (k+1:Nat))],[]⟩,fun k X=>k<=r.length/\(∀ d∈r.take k,zaY d=true)/\zbi (r.take k)<=k/\w=X,fun k=>r.length-k,0,(cvE rfl rfl),⟨Jh _,by simp,Jb _,rfl⟩,?_⟩;rintro k _ ⟨hk,hw,hdk,rfl⟩;dsimp only at hk hw hdk ⊢;refine biE (fun hc=>?_) fun hc=>?_
  ·have hc:((k+1:Nat):Int)<((r.length+1:Nat):Int):=dT hc;have hl:k<r.length:=by omega
   have hat:(bs (c::r)).data.toList[k+1]?=some r[k]:=by
    show (c::r)[k+1]?=_;rw [List.getElem?_cons_succ,gE hl]
   refine⟨k+1,rfl,(by show k+1<r.length+1;omega),r[k],hat,?_⟩;refine cmo (zkz _ _) ?_;rintro e _ ⟨rfl,rfl⟩;refine biE (fun hi=>?_) fun hi=>?_
   ·have hi:(!zaY r[k])=true:=hi;have hi:zaY r[k]=false:=(by simpa using hi);have:r.all zaY=false:=by
     rw [List.all_eq_false];exact⟨r[k],gM _,by rw [hi];simp⟩
    exact⟨rb (by rw [this];rfl),rfl⟩
   have hi:(!zaY r[k])=false:=hi;have hi:zaY r[k]=true:=by simpa using hi
   have hw':∀ d∈r.take (k+1),zaY d=true:=by
    rw [tsg hl];intro d hd;rcases JM.1 hd with hd | hd
    ·exact hw d hd
    ·simp only [Jl] at hd;rw [hd];exact hi
   have hds:zbi (r.take (k+1))=zbi (r.take k)+(if digB r[k]=true then 1 else 0):=by
    unfold zbi;rw [tsg hl,List.filter_append,lap];congr 1;by_cases h:digB r[k]=true
    ·rw [Kc h,List.filter_cons_of_pos h];rfl
    ·rw [JZ h,List.filter_cons_of_neg h];rfl
   refine⟨k+1,rfl,(by show k+1<r.length+1;omega),r[k],hat,?_⟩;refine cmo (zbK _ _) ?_;rintro e _ ⟨rfl,rfl⟩;have hd:decide ((clsL r[k]:Int)=4)=digB r[k]:=zdL (b:=4);refine biE (fun hg=>?_) fun hg=>?_
   ·have hg:digB r[k]=true:=hd.symm.trans hg;rw [Kc hg] at hds;refine⟨(zbi (r.take (k+1)):Int),(zaj (by omega)).trans (by omega),?_⟩;refine⟨((k+1+1:Nat):Int),(zaj (by omega)).trans (by omega),?_⟩;exact⟨k+1,(cvE rfl rfl),⟨hl,hw',by omega,rfl⟩,zdc (by omega)⟩
   ·have hg:¬ digB r[k]=true:=(by rw [Bool.not_eq_true];exact hd.symm.trans hg);rw [JZ hg] at hds;refine⟨((k+1+1:Nat):Int),(zaj (by omega)).trans (by omega),?_⟩;exact⟨k+1,⟨.cons rfl (.cons (by rw [hds];rfl) (.cons rfl .nil)),rfl⟩,⟨hl,hw',by omega,rfl⟩,zdc (by omega)⟩
  ·have hc:¬ ((k+1:Nat):Int)<((r.length+1:Nat):Int):=dF hc;obtain rfl:k=r.length:=by omega
   rw [JF] at hw;exact⟨(),⟨.cons rfl (.cons (by rw [JF];rfl) .nil),rfl⟩,Je.2 hw,rfl⟩
 rintro _ _ ⟨hall,rfl⟩;rw [hall,Js];have hdl:zbi r<=r.length:=List.length_filter_le _ _;refine⟨0,rfl,Nat.succ_pos _,c,rfl,?_⟩;have cd:decide ((c.toNat:Int)=114)=decide (c=114):=by rw [Kd];exact zbJ (y:=114)
 refine biE (fun h=>?_) fun h=>?_
 ·have h:(!decide (c=114))=true:=by
   have h:(!decide ((c.toNat:Int)=114))=true:=h
   rwa [cd] at h
  refine brT ?_;exact⟨rb (by rw [h];rfl),rfl⟩
 have h:(!decide (c=114))=false:=by
  have h:(!decide ((c.toNat:Int)=114))=false:=h
  rwa [cd] at h
 rw [h,Bool.false_or];refine biE (fun h5=>?_) fun h5=>?_
 ·have h5:zbi r=0:=by have h5:(zbi r:Int)=0:=dT h5;omega
  exact⟨rb (by rw [Ka h5];rfl),rfl⟩
 have h5:¬ zbi r=0:=by have h5:¬ (zbi r:Int)=0:=dF h5;omega
 refine⟨(r.length:Nat),(zaj (by show -9223372036854775808<=((r.length+1:Nat):Int)-1/\((r.length+1:Nat):Int)-1<=9223372036854775807;omega)).trans (by show ((r.length+1:Nat):Int)-1=_;omega),?_⟩;exact⟨rb (by rw [Kb h5,Bool.false_or,Kd];omega),rfl⟩
theorem zrD (p:Option Addr) (cap:Nat) (l:List (List UInt8)) (s:List UInt8) (w:World) (hl:SlR namE w p l) (hn:l.length<=140737488351232) :
  Calls Tryz.prog 242 #[.slice p l.length cap,strV s] w fun e w'=>∃ n:Int,e = .returned (i64 n)/\decide (0<=n)=l.any (fun q=>decide (q=s))/\w=w':=by
 refine cofE 19 [.slice p l.length cap,strV s] Tryz.func242 ?_;refine⟨Nat,fun k=>⟨[(0,.slice p l.length cap),(1,strV s),(7,i64 l.length),(8,i64 (k:Nat))],[]⟩,fun k X=>k<=l.length/\(∀ q∈l.take k,¬ q=s)/\w=X,fun k=>l.length-k,0,(cvE rfl rfl),⟨Jh _,by simp,rfl⟩,?_⟩;rintro k _ ⟨hk,hno,rfl⟩;dsimp only at hk hno ⊢;refine biE (fun hc=>?_) fun hc=>?_
 ·have hc:(k:Int)<(l.length:Int):=dT hc;have hkl:k<l.length:=by omega
  obtain⟨b,o,rfl,hb,hat⟩:=hl.at hkl;refine⟨k,rfl,hkl,?_⟩;refine⟨_,zac (hat k hkl) (i:=0) rfl,?_⟩;refine⟨_,fun w=>zax _ _ s l[k] w,?_⟩;refine biE (fun h=>?_) fun h=>?_
  ·have h:s=l[k]:=dT h;refine⟨k,rfl,?_,rfl⟩;rw [Ka (by omega)];symm;rw [JK];exact⟨l[k],gM _,Ka h.symm⟩
  ·have h:¬ s=l[k]:=dF h;refine⟨(k+1:Nat),(zaj (by omega)).trans (by omega),?_⟩;refine⟨k+1,(cvE rfl rfl),⟨hkl,?_,rfl⟩,zdc (by omega)⟩;rw [tsg hkl];intro q hq;rcases JM.1 hq with hq | hq
   ·exact hno q hq
   ·simp only [Jl] at hq;rw [hq];exact fun e=>h e.symm
 ·have hc:¬ (k:Int)<(l.length:Int):=dF hc;obtain rfl:k=l.length:=by omega
  rw [JF] at hno;refine⟨-1,rfl,?_,rfl⟩;symm;show _=false;rw [List.any_eq_false];exact fun q hq=>by simpa using hno q hq
theorem zlz (p:Option Addr) (cap:Nat) (l:List (List UInt8)) (s:List UInt8) (w:World) (hl:SlR namE w p l) (hn:l.length<=140737488351232) :
  Calls Tryz.prog 223 #[.slice p l.length cap,strV s] w fun e w'=>e = .returned (.bool (l.any fun q=>decide (q=s)))/\w=w':=by
 refine cofE 9 [.slice p l.length cap,strV s] Tryz.func223 ?_;refine cmo (zrD p cap l s w hl hn) ?_;rintro e _ ⟨n,rfl,h,rfl⟩;exact⟨rb h,rfl⟩
def GlobC (w : World) : Prop := zav w ⟨8, 0, none⟩ (zhI.map u8)
theorem GlobC.below {w w2 : World} (h : GlobC w) (hb : Below w.heap.size w w2) : GlobC w2 := zar hb h
def spC (x : InsD) (locs after : Nat) : List Value := [u8 x.op, u8 x.dst, u8 x.loc, .bool x.ar, u8 x.an, .bool x.br, u8 x.bn, u8 x.fn, u8 x.mode, u8 x.skip, i64 locs, i64 after]
theorem u8d (x k : UInt8) : decide ((x.toNat : Int) = (k.toNat : Int)) = decide (x = k) := by rw [Kd]; exact zbJ
theorem zrM (a b : UInt8) : IntKind.u8.wrap ((BitVec.ofInt IntKind.u8.bits (a.toNat : Int) &&& BitVec.ofInt IntKind.u8.bits (b.toNat : Int)).toNat : Int) = ((a &&& b).toNat : Int) := by
  have h : ∀ x : UInt8, BitVec.ofInt 8 (x.toNat : Int) = x.toBitVec := fun x => by
    apply BitVec.eq_of_toNat_eq
    rw [BitVec.toNat_ofInt]
    have := x.toNat_lt
    show ((x.toNat : Int) % (2 ^ 8 : Nat)).toNat = x.toNat
    omega
  show IntKind.u8.wrap ((BitVec.ofInt 8 (a.toNat : Int) &&& BitVec.ofInt 8 (b.toNat : Int)).toNat : Int) = _
  rw [h, h]
  have e : (a.toBitVec &&& b.toBitVec).toNat = (a &&& b).toNat := rfl
  rw [e]
  have := (a &&& b).toNat_lt
  exact zhn (by omega)
theorem zhX {g locs after : Nat} {x : InsD} {w : World} (bit : UInt8) (h : zav w ⟨g, 0, none⟩ (spC x locs after)) (hop : x.op.toNat ≤ 8) (hG : GlobC w) :
    Calls Tryz.prog 248 #[.pointer (some ⟨g, 0, none⟩), u8 bit] w fun e w' => e = .returned (.bool (hasL x.op bit)) ∧ w = w' := by
  refine za4 (S := sg 15) (sgOk _) (args := [.pointer (some ⟨g, 0, none⟩), u8 bit]) Tryz.func248 rfl rfl (JO rfl) rfl ?_
  refine ⟨_, zac h (i := 0) rfl, ?_⟩
  refine ⟨x.op.toNat, rfl, (by show x.op.toNat < 9; omega), ?_⟩
  have hn : (zhI.map u8)[x.op.toNat]? = some (u8 (zhI.getD x.op.toNat 0)) := by
    have hl : x.op.toNat < zhI.length := by show _ < 9; omega
    rw [Jm, List.getElem?_eq_getElem hl, List.getD_eq_getElem?_getD, List.getElem?_eq_getElem hl]; rfl
  refine ⟨u8 (zhI.getD x.op.toNat 0), by rw [Jp]; exact zac hG hn, ?_⟩
  refine ⟨((zhI.getD x.op.toNat 0 &&& bit).toNat : Int), zrM _ _, ?_⟩
  exact ⟨rb (by unfold hasL; rw [← u8d]; rfl), rfl⟩
theorem zhj (r : Bool) (n : UInt8) (w : World) : Calls Tryz.prog 250 #[.agg #[.bool r, u8 n]] w fun e w' => e = .returned (.bool (argL r n)) ∧ Below w.heap.size w w' := by
  refine za4 (S := sg 11) (sgOk _) (args := [.agg #[.bool r, u8 n]]) Tryz.func250 rfl rfl (JO rfl) rfl ?_
  have hb0 : Below w.heap.size w (w.alloc (.cells #[.bool r, u8 n] 94)) := (Ja _ _).alloc (Jb _) _
  have c0 := zaa (hnew w (.cells #[.bool r, u8 n] 94))
  refine ⟨_, zac c0 (i := 0) rfl, ?_⟩
  cases r with
  | false =>
    refine brT ?_
    exact ⟨rfl, hb0⟩
  | true =>
    refine brF ?_
    refine ⟨_, zac c0 (i := 1) rfl, ?_⟩
    refine ⟨rb ?_, hb0⟩
    show decide ((n.toNat : Int) < 8) = decide (n.toNat < 8)
    rw [Kd]; omega
theorem zjt {g locs after : Nat} {x : InsD} {w : World} (h : zav w ⟨g, 0, none⟩ (spC x locs after)) :
    Calls Tryz.prog 251 #[.pointer (some ⟨g, 0, none⟩)] w fun e w' => e = .returned (.bool (zhK x)) ∧ w = w' := by
  refine za4 (S := sg 64) (sgOk _) (args := [.pointer (some ⟨g, 0, none⟩)]) Tryz.func251 rfl rfl (JO rfl) rfl ?_
  refine ⟨_, zac h (i := 0) rfl, ?_⟩
  refine Jn (fun h1 => ?_) (fun h1 => ?_)
  · have h1 : x.op = 1 := of_decide_eq_true ((u8d x.op 1).symm.trans h1)
    have e : zhK x = (decide (x.mode = 0) || decide (x.mode = 1)) := by unfold zhK; rw [Kc h1]
    rw [e, ← u8d, ← u8d]
    refine ⟨_, zac h (i := 8) rfl, ?_⟩
    refine Jn (fun h2 => ?_) (fun h2 => ?_)
    · exact ⟨rb (by have h2 : decide ((x.mode.toNat : Int) = ((0 : UInt8).toNat : Int)) = true := h2
                    rw [h2]; rfl), rfl⟩
    · refine ⟨_, zac h (i := 8) rfl, ?_⟩
      exact ⟨rb (by have h2 : decide ((x.mode.toNat : Int) = ((0 : UInt8).toNat : Int)) = false := h2
                    rw [h2]; rfl), rfl⟩
  have h1 : ¬ x.op = 1 := of_decide_eq_false ((u8d x.op 1).symm.trans h1)
  refine Jn (fun h2 => ?_) (fun h2 => ?_)
  · have h2 : x.op = 2 := of_decide_eq_true ((u8d x.op 2).symm.trans h2)
    have e : zhK x = (decide (x.mode = 0) || decide (x.mode = 2)) := by unfold zhK; rw [JZ h1, Kc h2]
    rw [e, ← u8d, ← u8d]
    refine ⟨_, zac h (i := 8) rfl, ?_⟩
    refine Jn (fun h2 => ?_) (fun h2 => ?_)
    · exact ⟨rb (by have h2 : decide ((x.mode.toNat : Int) = ((0 : UInt8).toNat : Int)) = true := h2
                    rw [h2]; rfl), rfl⟩
    · refine ⟨_, zac h (i := 8) rfl, ?_⟩
      exact ⟨rb (by have h2 : decide ((x.mode.toNat : Int) = ((0 : UInt8).toNat : Int)) = false := h2
                    rw [h2]; rfl), rfl⟩
  have h2 : ¬ x.op = 2 := of_decide_eq_false ((u8d x.op 2).symm.trans h2)
  refine Jn (fun h3 => ?_) (fun h3 => ?_)
  · have h3 : x.op = 7 := of_decide_eq_true ((u8d x.op 7).symm.trans h3)
    have e : zhK x = (decide (x.mode = 3) || (decide (x.mode = 4) || decide (x.mode = 5))) := by unfold zhK; rw [JZ h1, JZ h2, Kc h3]
    rw [e, ← u8d, ← u8d, ← u8d]
    refine ⟨_, zac h (i := 8) rfl, ?_⟩
    refine Jn (fun h4 => ?_) (fun h4 => ?_)
    · refine brT ?_
      exact ⟨rb (by have h4 : decide ((x.mode.toNat : Int) = ((3 : UInt8).toNat : Int)) = true := h4
                    rw [h4]; rfl), rfl⟩
    have h4 : decide ((x.mode.toNat : Int) = ((3 : UInt8).toNat : Int)) = false := h4
    refine ⟨_, zac h (i := 8) rfl, ?_⟩
    refine Jn (fun h5 => ?_) (fun h5 => ?_)
    · exact ⟨rb (by have h5 : decide ((x.mode.toNat : Int) = ((4 : UInt8).toNat : Int)) = true := h5
                    rw [h4, h5]; rfl), rfl⟩
    have h5 : decide ((x.mode.toNat : Int) = ((4 : UInt8).toNat : Int)) = false := h5
    refine ⟨_, zac h (i := 8) rfl, ?_⟩
    exact ⟨rb (by rw [h4, h5]; rfl), rfl⟩
  have h3 : ¬ x.op = 7 := of_decide_eq_false ((u8d x.op 7).symm.trans h3)
  exact ⟨rb (by unfold zhK; rw [JZ h1, JZ h2, JZ h3]), rfl⟩
theorem zm3 {g locs after : Nat} {x : InsD} {w : World} (h : zav w ⟨g, 0, none⟩ (spC x locs after)) :
    Calls Tryz.prog 252 #[.pointer (some ⟨g, 0, none⟩)] w fun e w' => e = .returned (.bool (fnL x)) ∧ w = w' := by
  refine za4 (S := sg 56) (sgOk _) (args := [.pointer (some ⟨g, 0, none⟩)]) Tryz.func252 rfl rfl (JO rfl) rfl ?_
  refine ⟨_, zac h (i := 0) rfl, ?_⟩
  refine Jn (fun h1 => ?_) (fun h1 => ?_)
  · have h1 : x.op = 3 := of_decide_eq_true ((u8d x.op 3).symm.trans h1)
    have e : fnL x = (decide (x.fn = 1) || (decide (x.fn = 2) || decide (x.fn = 3))) := by unfold fnL; rw [Kc h1]
    rw [e, ← u8d, ← u8d, ← u8d]
    refine ⟨_, zac h (i := 7) rfl, ?_⟩
    refine Jn (fun h4 => ?_) (fun h4 => ?_)
    · refine brT ?_
      exact ⟨rb (by have h4 : decide ((x.fn.toNat : Int) = ((1 : UInt8).toNat : Int)) = true := h4
                    rw [h4]; rfl), rfl⟩
    have h4 : decide ((x.fn.toNat : Int) = ((1 : UInt8).toNat : Int)) = false := h4
    refine ⟨_, zac h (i := 7) rfl, ?_⟩
    refine Jn (fun h5 => ?_) (fun h5 => ?_)
    · exact ⟨rb (by have h5 : decide ((x.fn.toNat : Int) = ((2 : UInt8).toNat : Int)) = true := h5
                    rw [h4, h5]; rfl), rfl⟩
    have h5 : decide ((x.fn.toNat : Int) = ((2 : UInt8).toNat : Int)) = false := h5
    refine ⟨_, zac h (i := 7) rfl, ?_⟩
    exact ⟨rb (by rw [h4, h5]; rfl), rfl⟩
  have h1 : ¬ x.op = 3 := of_decide_eq_false ((u8d x.op 3).symm.trans h1)
  refine Jn (fun h2 => ?_) (fun h2 => ?_)
  · have h2 : x.op = 8 := of_decide_eq_true ((u8d x.op 8).symm.trans h2)
    have e : fnL x = (decide (x.fn = 4) || (decide (x.fn = 5) || decide (x.fn = 6))) := by unfold fnL; rw [JZ h1, Kc h2]
    rw [e, ← u8d, ← u8d, ← u8d]
    refine ⟨_, zac h (i := 7) rfl, ?_⟩
    refine Jn (fun h4 => ?_) (fun h4 => ?_)
    · refine brT ?_
      exact ⟨rb (by have h4 : decide ((x.fn.toNat : Int) = ((4 : UInt8).toNat : Int)) = true := h4
                    rw [h4]; rfl), rfl⟩
    have h4 : decide ((x.fn.toNat : Int) = ((4 : UInt8).toNat : Int)) = false := h4
    refine ⟨_, zac h (i := 7) rfl, ?_⟩
    refine Jn (fun h5 => ?_) (fun h5 => ?_)
    · exact ⟨rb (by have h5 : decide ((x.fn.toNat : Int) = ((5 : UInt8).toNat : Int)) = true := h5
                    rw [h4, h5]; rfl), rfl⟩
    have h5 : decide ((x.fn.toNat : Int) = ((5 : UInt8).toNat : Int)) = false := h5
    refine ⟨_, zac h (i := 7) rfl, ?_⟩
    exact ⟨rb (by rw [h4, h5]; rfl), rfl⟩
  have h2 : ¬ x.op = 8 := of_decide_eq_false ((u8d x.op 8).symm.trans h2)
  exact ⟨rb (by unfold fnL; rw [JZ h1, JZ h2]), rfl⟩
set_option maxRecDepth 4000
def zIns:InsD:=⟨0,0,0,false,0,false,0,0,0,0⟩
def nd0 (x:InsD):InsD:={ zIns with op:=x.op }
def nd1 (x:InsD):InsD:={ nd0 x with dst:=if hasL x.op 1 then x.dst else 0 }
def nd2 (x:InsD):InsD:={ nd1 x with loc:=if hasL x.op 2 then x.loc else 0 }
def nd3 (x:InsD):InsD:={ nd2 x with ar:=hasL x.op 4&&x.ar,an:=if hasL x.op 4 then x.an else 0 }
def nd4 (x:InsD):InsD:={ nd3 x with br:=hasL x.op 8&&x.br,bn:=if hasL x.op 8 then x.bn else 0 }
def nd5 (x:InsD):InsD:={ nd4 x with fn:=if hasL x.op 16 then x.fn else 0 }
def nd6 (x:InsD):InsD:={ nd5 x with mode:=if hasL x.op 32 then x.mode else 0 }
def nd7 (x:InsD):InsD:={ nd6 x with skip:=if hasL x.op 64 then x.skip else 0 }
theorem zoG {g locs after:Nat} {x:InsD} {w:World} (h:zav w ⟨g,0,none⟩ (spC x locs after)) (hg:g<w.heap.size) (hop:x.op.toNat<=8) (hG:GlobC w) :
  CB 245 #[At0 g] w (.agg (insE.enc (zhG x)).toArray):=by
 refine cofM 67 [At0 g] (.s .p (.c .p (.c .p (.c .p (.c .p (.c .p (.c .p (.c .p (.c .p .p))))))))) Tryz.func245 ?_;obtain⟨r,hr⟩:=nm (w.heap.size);obtain⟨W0,hW0⟩:=nm (w.alloc (.cells (insE.enc zIns).toArray 96));have hb0:Bw w W0:=by rw [hW0];exact (zba _ _)
 have f0:W0.heap[r]?=some (.cells (insE.enc zIns).toArray 96 (0,0)):=by rw [hW0,hr];exact hnew w _
 have s0:W0.heap.size=r+1:=by rw [hW0,wz,hr]
 let Good:InsD->World->Prop:=fun y X=>Bw w X/\X.heap[r]?=some (.cells (insE.enc zIns).toArray 96 (0,0))/\X.heap[r+1]?=some (.cells (insE.enc y).toArray 96 (0,0))
 have good:∀ y X,Good y X->zav X ⟨g,0,none⟩ (spC x locs after)/\GlobC X/\g<X.heap.size:=fun y X ⟨hb,_,_⟩=>⟨zbb hb hg h,hG.below hb,by have:=hb.size;omega⟩;have turn:∀ y z X Y,Good y X->X.grownBy Y (some (r+1))->Y.heap[r+1]?=some (.cells (insE.enc z).toArray 96 (0,0))->Good z Y:=fun y z X Y ⟨hb,h1,h2⟩ hg' h3 =>
  ⟨hb.grown hg' hb.size (fun k e=>by simp only [Jf] at e;omega),(hg'.block _ (hlt h1) (fun e=>by simp only [Jf] at e;omega)).trans h1,h3⟩
 have start:∀ Y,Bw W0 Y->Y.heap[W0.heap.size]?=some (.cells (Value.agg (insE.enc (nd0 x)).toArray).cells 96 (0,0))->Good (nd0 x) Y:=fun Y hY fY =>
  ⟨(zst hb0 hY),zab hY f0,by rw [<- s0];exact fY⟩
 have h0:zav W0 ⟨g,0,none⟩ (spC x locs after):=zbb hb0 hg h;have p2:some (Value.pointer (some ⟨w.heap.size,0,none⟩))=some (At0 r):=by rw [hr]
 have p3:some (Value.pointer (some ⟨W0.heap.size,0,none⟩))=some (At0 (r+1)):=by rw [s0]
 refine⟨Unit,fun _=>⟨[(0,At0 g),(2,At0 r),(3,At0 (r+1))],[]⟩,fun _ X=>Good (nd0 x) X,?_,?_⟩
 ·subst hW0;exact⟨_,zac h0 (i:=0) rfl,insE.enc (nd0 x),rfl,zak (v := .agg (insE.enc (nd0 x)).toArray) k96 rfl rfl rfl fun Y hbY fY sY=>⟨(),⟨.cons rfl (.cons p2 (.cons p3 .nil)),rfl⟩,start Y hbY fY⟩⟩
 clear start h0 f0 hb0 p2 p3 s0;rintro _ Y hY;refine⟨Unit,fun _=>⟨[(0,At0 g),(2,At0 r),(3,At0 (r+1))],[]⟩,fun _ X=>Good (nd1 x) X,?_,?_⟩
 ·obtain⟨hc,hGY,hgY⟩:=good _ Y hY;refine cmo (zhX 1 hc hop hGY) ?_;rintro e _ ⟨rfl,rfl⟩;refine biE (fun hh=>?_) fun hh=>?_
  ·have hh:hasL x.op 1=true:=hh;have e:nd1 x={ nd0 x with dst:=x.dst }:=by unfold nd1;rw [Kc hh]
   exact⟨_,zac hc (i:=1) rfl,zcd k5 rfl (hY.2.2) (o:=1) (by show 1<10;omega) (v:=u8 x.dst) rfl rfl fun Z fZ gZ sZ=>⟨(),(cvE rfl rfl),turn _ _ Y Z hY gZ (by rw [e];exact fZ)⟩⟩
  ·have hh:hasL x.op 1=false:=hh;have e:nd1 x=nd0 x:=by unfold nd1;rw [JZ (by rw [hh];decide)];rfl
   exact⟨(),(cvE rfl rfl),by rw [e];exact hY⟩
 clear hY Y;rintro _ Y hY;refine⟨Unit,fun _=>⟨[(0,At0 g),(2,At0 r),(3,At0 (r+1))],[]⟩,fun _ X=>Good (nd2 x) X,?_,?_⟩
 ·obtain⟨hc,hGY,hgY⟩:=good _ Y hY;refine cmo (zhX 2 hc hop hGY) ?_;rintro e _ ⟨rfl,rfl⟩;refine biE (fun hh=>?_) fun hh=>?_
  ·have hh:hasL x.op 2=true:=hh;have e:nd2 x={ nd1 x with loc:=x.loc }:=by unfold nd2;rw [Kc hh]
   exact⟨_,zac hc (i:=2) rfl,zcd k5 rfl (hY.2.2) (o:=2) (by show 2<10;omega) (v:=u8 x.loc) rfl rfl fun Z fZ gZ sZ=>⟨(),(cvE rfl rfl),turn _ _ Y Z hY gZ (by rw [e];exact fZ)⟩⟩
  ·have hh:hasL x.op 2=false:=hh;have e:nd2 x=nd1 x:=by unfold nd2;rw [JZ (by rw [hh];decide)];rfl
   exact⟨(),(cvE rfl rfl),by rw [e];exact hY⟩
 clear hY Y;rintro _ Y hY;refine⟨Unit,fun _=>⟨[(0,At0 g),(2,At0 r),(3,At0 (r+1))],[]⟩,fun _ X=>Good (nd3 x) X,?_,?_⟩
 ·obtain⟨hc,hGY,hgY⟩:=good _ Y hY;refine cmo (zhX 4 hc hop hGY) ?_;rintro e _ ⟨rfl,rfl⟩;refine biE (fun hh=>?_) fun hh=>?_
  ·have hh:hasL x.op 4=true:=hh;have e:nd3 x={ nd2 x with ar:=x.ar,an:=x.an }:=by unfold nd3;rw [hh,Js,Kc rfl]
   exact⟨[.bool x.ar,u8 x.an],rfl,zaD (n:=3) (m:=2) hc,hgY,zbs k94 hY.2.2 (o:=3) (v := .agg #[.bool x.ar,u8 x.an]) rfl (by show 3+2<=10;omega) rfl fun Z fZ gZ sZ=>⟨(),(cvE rfl rfl),turn _ _ Y Z hY gZ (by rw [e];exact fZ)⟩⟩
  ·have hh:hasL x.op 4=false:=hh;have e:nd3 x=nd2 x:=by unfold nd3;rw [hh,JJ,JZ (by decide)];rfl
   exact⟨(),(cvE rfl rfl),by rw [e];exact hY⟩
 clear hY Y;rintro _ Y hY;refine⟨Unit,fun _=>⟨[(0,At0 g),(2,At0 r),(3,At0 (r+1))],[]⟩,fun _ X=>Good (nd4 x) X,?_,?_⟩
 ·obtain⟨hc,hGY,hgY⟩:=good _ Y hY;refine cmo (zhX 8 hc hop hGY) ?_;rintro e _ ⟨rfl,rfl⟩;refine biE (fun hh=>?_) fun hh=>?_
  ·have hh:hasL x.op 8=true:=hh;have e:nd4 x={ nd3 x with br:=x.br,bn:=x.bn }:=by unfold nd4;rw [hh,Js,Kc rfl]
   exact⟨[.bool x.br,u8 x.bn],rfl,zaD (n:=5) (m:=2) hc,hgY,zbs k94 hY.2.2 (o:=5) (v := .agg #[.bool x.br,u8 x.bn]) rfl (by show 5+2<=10;omega) rfl fun Z fZ gZ sZ=>⟨(),(cvE rfl rfl),turn _ _ Y Z hY gZ (by rw [e];exact fZ)⟩⟩
  ·have hh:hasL x.op 8=false:=hh;have e:nd4 x=nd3 x:=by unfold nd4;rw [hh,JJ,JZ (by decide)];rfl
   exact⟨(),(cvE rfl rfl),by rw [e];exact hY⟩
 clear hY Y;rintro _ Y hY;refine⟨Unit,fun _=>⟨[(0,At0 g),(2,At0 r),(3,At0 (r+1))],[]⟩,fun _ X=>Good (nd5 x) X,?_,?_⟩
 ·obtain⟨hc,hGY,hgY⟩:=good _ Y hY;refine cmo (zhX 16 hc hop hGY) ?_;rintro e _ ⟨rfl,rfl⟩;refine biE (fun hh=>?_) fun hh=>?_
  ·have hh:hasL x.op 16=true:=hh;have e:nd5 x={ nd4 x with fn:=x.fn }:=by unfold nd5;rw [Kc hh]
   exact⟨_,zac hc (i:=7) rfl,zcd k5 rfl (hY.2.2) (o:=7) (by show 7<10;omega) (v:=u8 x.fn) rfl rfl fun Z fZ gZ sZ=>⟨(),(cvE rfl rfl),turn _ _ Y Z hY gZ (by rw [e];exact fZ)⟩⟩
  ·have hh:hasL x.op 16=false:=hh;have e:nd5 x=nd4 x:=by unfold nd5;rw [JZ (by rw [hh];decide)];rfl
   exact⟨(),(cvE rfl rfl),by rw [e];exact hY⟩
 clear hY Y;rintro _ Y hY;refine⟨Unit,fun _=>⟨[(0,At0 g),(2,At0 r),(3,At0 (r+1))],[]⟩,fun _ X=>Good (nd6 x) X,?_,?_⟩
 ·obtain⟨hc,hGY,hgY⟩:=good _ Y hY;refine cmo (zhX 32 hc hop hGY) ?_;rintro e _ ⟨rfl,rfl⟩;refine biE (fun hh=>?_) fun hh=>?_
  ·have hh:hasL x.op 32=true:=hh;have e:nd6 x={ nd5 x with mode:=x.mode }:=by unfold nd6;rw [Kc hh]
   exact⟨_,zac hc (i:=8) rfl,zcd k5 rfl (hY.2.2) (o:=8) (by show 8<10;omega) (v:=u8 x.mode) rfl rfl fun Z fZ gZ sZ=>⟨(),(cvE rfl rfl),turn _ _ Y Z hY gZ (by rw [e];exact fZ)⟩⟩
  ·have hh:hasL x.op 32=false:=hh;have e:nd6 x=nd5 x:=by unfold nd6;rw [JZ (by rw [hh];decide)];rfl
   exact⟨(),(cvE rfl rfl),by rw [e];exact hY⟩
 clear hY Y;rintro _ Y hY;refine⟨Unit,fun _=>⟨[(0,At0 g),(2,At0 r),(3,At0 (r+1))],[]⟩,fun _ X=>Good (nd7 x) X,?_,?_⟩
 ·obtain⟨hc,hGY,hgY⟩:=good _ Y hY;refine cmo (zhX 64 hc hop hGY) ?_;rintro e _ ⟨rfl,rfl⟩;refine biE (fun hh=>?_) fun hh=>?_
  ·have hh:hasL x.op 64=true:=hh;have e:nd7 x={ nd6 x with skip:=x.skip }:=by unfold nd7;rw [Kc hh]
   exact⟨_,zac hc (i:=9) rfl,zcd k5 rfl (hY.2.2) (o:=9) (by show 9<10;omega) (v:=u8 x.skip) rfl rfl fun Z fZ gZ sZ=>⟨(),(cvE rfl rfl),turn _ _ Y Z hY gZ (by rw [e];exact fZ)⟩⟩
  ·have hh:hasL x.op 64=false:=hh;have e:nd7 x=nd6 x:=by unfold nd7;rw [JZ (by rw [hh];decide)];rfl
   exact⟨(),(cvE rfl rfl),by rw [e];exact hY⟩
 clear hY Y;rintro _ Y hY;exact⟨_,rfl,zaa hY.2.2,hlt hY.2.2,zao (v := .agg (insE.enc (nd7 x)).toArray) k96 hY.2.1 rfl rfl rfl ⟨_,rfl,zaa (zal hY.2.1),rfl,zah hY.1 (by omega) _⟩⟩
end Go.Proofs.YtnadlhpkpnfmbaaGreatDoor
namespace Go.Vc
open Go.RowKit
def zbv (cs:List Value) (o n:Nat):List Value:=(cs.drop o).take n
theorem zgy (cs:List Value) (o n m:Nat):zbv cs o (n+m)=zbv cs o n++zbv cs (o+n) m:=by
 unfold zbv;rw [List.take_add,List.drop_drop]
theorem zeM {cs:List Value} {o n:Nat} (h:o+n<=cs.length):(zbv cs o n).length=n:=by
 unfold zbv;rw [JD,Ks];omega
def vOf (g:Bool) (a:List Value):Value:=match g with | true => .agg a.toArray | false=>a.headD undef
structure TyEq (P:Program) (T:TypeId) (g:Bool) (n k:Nat) (G:List Value->Prop):Prop where
 ag:∀ w,(isAgg T).run P w = .ok g w
 info:∃ i,P.info? T=some i
 cl:P.cellsOf T=n
 one:g=false->n=1
 eq:∀ d w a b,a.length=n->b.length=n->G a->G b->∃ r:Bool,(Op.equalIn (d+k) T (vOf g a) (vOf g b)).run P w = .ok r w/\(r=true↔a=b)
section
variable {P:Program}
theorem TyEq.up {T:TypeId} {g:Bool} {n k:Nat} {G:List Value->Prop} (h:TyEq P T g n k G) (m:Nat):TyEq P T g n (m+k) G :=
 ⟨h.ag,h.info,h.cl,h.one,fun d w a b h1 h2 h3 h4=>by have:=h.eq (d+m) w a b h1 h2 h3 h4;rwa [Kn] at this⟩
theorem TyEq.part {T:TypeId} {g:Bool} {n k:Nat} {G:List Value->Prop} (h:TyEq P T g n k G) (xs:Array Value) (o:Nat) (hs:o+n<=xs.size) (w:World):(Go.part T xs o).run P w = .ok (vOf g (zbv xs.toList o n)) w:=by
 obtain⟨i,hi⟩:=h.info;have hsz:=run_sizeOf w hi;rw [h.cl] at hsz;simp only [Go.part,Ji,h.ag,Jd]
 cases g with
 | true =>
  simp only [if_true,Ji,hsz,Jd,JA,vOf];congr 2;apply Array.toList_inj.1;simp [zbv,Array.toList_extract,List.extract_eq_take_drop]
 | false =>
  have h1:=h.one rfl;subst h1;have ho:o<xs.size:=by omega
  simp only [JC,if_false,Array.getElem?_eq_getElem ho,JA,vOf];congr 1;unfold zbv;rw [JH (by simpa using ho)];simp
inductive Tile (P:Program) (k:Nat):List Field->Nat->Nat->(List Value->Prop)->Prop
 | nil {s:Nat}:Tile P k [] s s (fun _=>True)
 | cons {f : Field} {fs : List Field} {s e n : Nat} {g : Bool} {G G' : List Value → Prop} (hn : f.name ≠ "_") (ho : f.offset = s) (ht : TyEq P f.type g n k G) (hr : Tile P k fs (s + n) e G') : Tile P k (f :: fs) s e (fun cs => G (cs.take n) ∧ G' (cs.drop n))
theorem Tile.le {k:Nat} {fs:List Field} {s e:Nat} {G:List Value->Prop} (h:Tile P k fs s e G):s<=e:=by
 induction h with
 | nil=>exact Jb _
 | cons _ _ _ _ ih=>omega
theorem Tile.eq {k:Nat} {fs:List Field} {s e:Nat} {G:List Value->Prop} (h:Tile P k fs s e G):∀ (d:Nat) (xs ys:Array Value) (w:World),e<=xs.size->e<=ys.size->G (zbv xs.toList s (e-s))->G (zbv ys.toList s (e-s)) ->
  ∃ r:Bool,(Op.eqFields (d+k) xs ys fs).run P w = .ok r w/\(r=true↔zbv xs.toList s (e-s)=zbv ys.toList s (e-s)):=by
 induction h with
 | nil=>intro d xs ys w _ _ _ _;exact⟨true,rfl,by simp [zbv]⟩
 | @cons f fs s e n g G G' hn ho ht hr ih =>
  intro d xs ys w hx hy hgx hgy;have hle:=hr.le;have e1:e-s=n+(e-(s+n)):=by omega
  rw [e1,zgy] at hgx hgy;rw [e1,zgy,zgy];have lx:(zbv xs.toList s n).length=n:=zeM (by simp;omega);have ly:(zbv ys.toList s n).length=n:=zeM (by simp;omega);obtain⟨gx1,gx2⟩:=hgx;obtain⟨gy1,gy2⟩:=hgy;rw [JT (by omega),Jy (by omega)] at gx1 gy1;rw [List.drop_append_of_le_length (by omega),JI (by omega),List.nil_append] at gx2 gy2;obtain⟨r1,h1,h2⟩:=ht.eq d w _ _ lx ly gx1 gy1;obtain⟨r2,h3,h4⟩:=ih d xs ys w hx hy gx2 gy2;simp only [Op.eqFields,hn,ne_eq,not_false_eq_true,if_true,Ji,ho,ht.part xs s (by omega) w,ht.part ys s (by omega) w,Jd,h1];have hap:(zbv xs.toList s n++zbv xs.toList (s+n) (e-(s+n))=zbv ys.toList s n++zbv ys.toList (s+n) (e-(s+n)))↔(zbv xs.toList s n=zbv ys.toList s n/\zbv xs.toList (s+n) (e-(s+n))=zbv ys.toList (s+n) (e-(s+n))) :=
   ⟨fun h=>List.append_inj h (by rw [lx,ly]),fun h=>by rw [h.1,h.2]⟩
  rw [hap,<- h2,<- h4]
  cases r1 with
  | true=>exact⟨r2,by simpa using h3,by simp⟩
  | false=>exact⟨false,by simp,by simp⟩
theorem TyEq.struct {T:TypeId} {k n:Nat} {G:List Value->Prop} (hu:P.underlying T=some (.struct (P.fieldsOf T))) (hp:P.stoodInHeld T=false) (hag:∀ w,(isAgg T).run P w = .ok true w) (hi:∃ i,P.info? T=some i) (hc:P.cellsOf T=n)
  (ht:Tile P k (P.fieldsOf T).toList 0 n G):TyEq P T true n (k+1) G :=
 ⟨hag,hi,hc,fun h=>(by cases h),fun d w a b ha hb ga gb=>by
  have e:∀ l:List Value,l.length=n->zbv l.toArray.toList 0 (n-0)=l:=fun l hl=>by
   unfold zbv;rw [List.drop_zero,Nat.sub_zero];exact Jy (by show l.length<=n;omega)
  obtain⟨r,h1,h2⟩:=ht.eq d a.toArray b.toArray w (by simp;omega) (by simp;omega) (by rw [e a ha];exact ga) (by rw [e b hb];exact gb);rw [e a ha,e b hb] at h2;refine⟨r,?_,h2⟩;have:=run_equalIn_struct (P:=P) w (d+k) T a.toArray b.toArray hu hp;rw [<- Kn];exact this.trans h1⟩
theorem znt {n m:Nat} (hn:0<n) {a b:List Value} (ha:a.length=m*n) (hb:b.length=m*n) (h:∀ i,i<m->zbv a (i*n) n=zbv b (i*n) n):a=b:=by
 apply List.ext_getElem?;intro j;by_cases hj:j<m*n
 ·have hd:j/n<m:=Nat.div_lt_of_lt_mul (by rw [Nat.mul_comm];exact hj);have h1:=congrArg (fun l=>l[j%n]?) (h _ hd);simp only [zbv,List.getElem?_take,Kc (Nat.mod_lt j hn),List.getElem?_drop] at h1;rw [Nat.mul_comm,Nat.div_add_mod] at h1;exact h1
 ·rw [Jo (by omega),Jo (by omega)]
theorem TyEq.array {T e:TypeId} {g:Bool} {n k m:Nat} {G:List Value->Prop} (hn:0<n) (hu:P.underlying T=some (.array m e)) (hag:∀ w,(isAgg T).run P w = .ok true w) (hi:∃ i,P.info? T=some i) (hc:P.cellsOf T=m*n) (ht:TyEq P e g n k G) :
  TyEq P T true (m*n) (k+1) (fun cs=>∀ i,i<m->G (zbv cs (i*n) n)) :=
 ⟨hag,hi,hc,fun h=>(by cases h),fun d w a b ha hb ga gb=>by
  obtain⟨ie,hie⟩:=ht.info;have key:∀ is:List Nat,(∀ i∈is,i<m)->∃ r:Bool,(Op.eqItems (d+k) e n a.toArray b.toArray is).run P w = .ok r w/\(r=true↔∀ i∈is,zbv a (i*n) n=zbv b (i*n) n):=by
   intro is
   induction is with
   | nil=>intro _;exact⟨true,rfl,by simp⟩
   | cons i is ih =>
    intro him;have hi:=him i Jv;have hle:i*n+n<=m*n:=(by rw [<- Nat.succ_mul];exact Nat.mul_le_mul_right _ hi);obtain⟨r2,h3,h4⟩:=ih fun j hj=>him j (JB _ hj);obtain⟨r1,h1,h2⟩:=ht.eq d w (zbv a (i*n) n) (zbv b (i*n) n) (zeM (by omega)) (zeM (by omega)) (ga i hi) (gb i hi);have p1:=ht.part a.toArray (i*n) (by simp;omega) w;have p2:=ht.part b.toArray (i*n) (by simp;omega) w;have ea:a.toArray.toList=a:=rfl;have eb:b.toArray.toList=b:=rfl;rw [ea] at p1;rw [eb] at p2;simp only [Op.eqItems,Ji,p1,p2,Jd,h1]
    cases r1 with
    | true =>
     refine⟨r2,by simpa using h3,?_⟩;rw [h4];have:=h2.1 rfl;simp [this]
    | false =>
     refine⟨false,by simp,?_⟩;simp only [JC,false_iff];intro h;have:=h2.2 (h i Jv)
     cases this
  obtain⟨r,h1,h2⟩:=key (List.range m) fun i hi=>Jt.1 hi;refine⟨r,?_,?_⟩
  ·have:=run_equalIn_array (P:=P) w (d+k) a.toArray b.toArray hu hie;rw [ht.cl] at this;rw [<- Kn];exact this.trans h1
  ·rw [h2];exact⟨fun h=>znt hn ha hb fun i hi=>h i (Jt.2 hi),fun h i _=>by rw [h]⟩⟩
theorem TyEq.int {T:TypeId} {q:IntKind} (hu:P.underlying T=some (.int q)) (hag:∀ w,(isAgg T).run P w = .ok false w) (hi:∃ i,P.info? T=some i) (hc:P.cellsOf T=1):TyEq P T false 1 1 (fun cs=>∃ x,cs=[.int q x]) :=
 ⟨hag,hi,hc,fun _=>rfl,fun d w a b _ _ ⟨x,hx⟩ ⟨y,hy⟩=>by
  subst hx hy;refine⟨decide (x=y),?_,by simp⟩;simp only [vOf,List.headD_cons,Op.equalIn,Ji,run_underlying hu,Jd,if_true,JA];congr 1⟩
theorem TyEq.bool {T:TypeId} (hu:P.underlying T=some .bool) (hag:∀ w,(isAgg T).run P w = .ok false w) (hi:∃ i,P.info? T=some i) (hc:P.cellsOf T=1):TyEq P T false 1 1 (fun cs=>∃ x,cs=[.bool x]) :=
 ⟨hag,hi,hc,fun _=>rfl,fun d w a b _ _ ⟨x,hx⟩ ⟨y,hy⟩=>by
  subst hx hy;refine⟨x == y,?_,by simp⟩;simp only [vOf,List.headD_cons,Op.equalIn,Ji,run_underlying hu,Jd,JA]⟩
end
end Go.Vc
namespace Go.Proofs.YtnadlhpkpnfmbaaGreatDoor
open Go.Vc Go.RowKit Go.Sei
def GInt (q:IntKind) (cs:List Value):Prop:=∃ x,cs=[.int q x]
def zua (cs:List Value):Prop:=∃ x,cs=[.bool x]
theorem tU8:TyEq Tryz.prog 5 false 1 1 (GInt .u8) := .int Tryz.underlying5 (fun w=>Tryz.isAgg5 w) (zby (by kernel_rfl) (by kernel_rfl)).1 (by kernel_rfl)
theorem ztn:TyEq Tryz.prog 4 false 1 1 zua := .bool Tryz.underlying4 (fun w=>Tryz.isAgg4 w) (zby (by kernel_rfl) (by kernel_rfl)).1 (by kernel_rfl)
theorem uf {T:TypeId} {F:Array Field} (h:Tryz.prog.underlying T=some (.struct F)):Tryz.prog.underlying T=some (.struct (Tryz.prog.fieldsOf T))/\Tryz.prog.fieldsOf T=F:=by
 have:Tryz.prog.fieldsOf T=F:=by unfold Program.fieldsOf;rw [h]
 exact⟨by rw [this];exact h,this⟩
open Classical in
noncomputable def cdec (p:Prop):Bool:=decide p
theorem zri {p:Prop} [h:Decidable p]:cdec p=decide p:=by unfold cdec;congr
theorem zeP {p q:Prop} [Decidable q] (h:p↔q):cdec p=decide q:=by
 have:p=q:=propext h;subst this;exact zri
section
variable {T:TypeId} {n k:Nat} {G:List Value->Prop} (h:TyEq Tryz.prog T true n k G) (d:Nat) (hd:d+k=10000) (hg:Tryz.prog.eqGuardType Tryz.prog.depth T=false) {a b:List Value} (ha:a.length=n) (hb:b.length=n) (ga:G a) (gb:G b)
include h hd hg ha hb ga gb
omit hg in
theorem equal_ty (w:World):(Op.equal T (.agg a.toArray) (.agg b.toArray)).run Tryz.prog w = .ok (cdec (a=b)) w:=by
 obtain⟨r,h1,h2⟩:=h.eq d w a b ha hb ga gb;have e:r=cdec (a=b):=by
  unfold cdec
  cases r with
  | true=>simp [h2.1 rfl]
  | false =>
   have:¬ a=b:=fun e=>by have:=h2.2 e;cases this
   simp [this]
 rw [hd] at h1;rw [<- e];exact h1
theorem zpz (x y:Operand) (w:World):(do eqGuard .neq T x y (.agg a.toArray) (.agg b.toArray);binOp .neq T (.agg a.toArray) (.agg b.toArray)).run Tryz.prog w = .ok (.bool (!cdec (a=b))) w:=by
 have he:=equal_ty h d hd ha hb ga gb w;have h1:(eqGuard .neq T x y (.agg a.toArray) (.agg b.toArray)).run Tryz.prog w = .ok () w:=by
  simp only [eqGuard,Bool.not_true,JC,if_false,Ji,run_program,Jd,hg,Bool.not_false,if_true,JA]
 rw [Ji,h1];simp only [Jd,binOp,Ji,he,JA]
theorem znc (x y:Operand) (w:World):(do eqGuard .eql T x y (.agg a.toArray) (.agg b.toArray);binOp .eql T (.agg a.toArray) (.agg b.toArray)).run Tryz.prog w = .ok (.bool (cdec (a=b))) w:=by
 have he:=equal_ty h d hd ha hb ga gb w;have h1:(eqGuard .eql T x y (.agg a.toArray) (.agg b.toArray)).run Tryz.prog w = .ok () w:=by
  simp only [eqGuard,Bool.not_true,JC,if_false,Ji,run_program,Jd,hg,Bool.not_false,if_true,JA]
 rw [Ji,h1];simp only [Jd,binOp,Ji,he,JA]
end
theorem tArg:∃ G,TyEq Tryz.prog 94 true 2 2 G/\∀ r n,G [.bool r,u8 n]:=by
 refine⟨_,.struct (uf Tryz.underlying94).1 (by kernel_rfl) (fun w=>Tryz.isAgg94 w) (zby (by kernel_rfl) (by kernel_rfl)).1 (by kernel_rfl)
  (by rw [(uf Tryz.underlying94).2];exact .cons (by decide) rfl ztn (.cons (by decide) rfl tU8 .nil)),fun r n=>?_⟩
 exact⟨⟨_,rfl⟩,⟨_,rfl⟩,trivial⟩
theorem tIns:∃ G,TyEq Tryz.prog 96 true 10 3 G/\∀ x,G (insE.enc x):=by
 obtain⟨G,h1,h2⟩:=tArg;refine⟨_,.struct (uf Tryz.underlying96).1 (by kernel_rfl) (fun w=>Tryz.isAgg96 w) (zby (by kernel_rfl) (by kernel_rfl)).1 (by kernel_rfl)
  (by rw [(uf Tryz.underlying96).2];exact .cons (by decide) rfl (tU8.up 1) (.cons (by decide) rfl (tU8.up 1) (.cons (by decide) rfl (tU8.up 1) (.cons (by decide) rfl h1 (.cons (by decide) rfl h1 (.cons (by decide) rfl (tU8.up 1) (.cons (by decide) rfl (tU8.up 1) (.cons (by decide) rfl (tU8.up 1) .nil)))))))),fun x=>?_⟩
 exact⟨⟨_,rfl⟩,⟨_,rfl⟩,⟨_,rfl⟩,h2 _ _,h2 _ _,⟨_,rfl⟩,⟨_,rfl⟩,⟨_,rfl⟩,trivial⟩
theorem zdC {a b:UInt8} (h:u8 a=u8 b):a=b:=by
 unfold u8 at h;simp only [Value.int.injEq,true_and] at h;exact zbJ.1 h
theorem zqH {a b:InsD}:insE.enc a=insE.enc b↔a=b:=by
 constructor
 ·intro h;obtain⟨a0,a1,a2,a3,a4,a5,a6,a7,a8,a9⟩:=a;obtain⟨b0,b1,b2,b3,b4,b5,b6,b7,b8,b9⟩:=b;simp only [insE,List.cons.injEq,and_true,Value.bool.injEq] at h;obtain⟨h0,h1,h2,rfl,h4,rfl,h6,h7,h8,h9⟩:=h;rw [zdC h0,zdC h1,zdC h2,zdC h4,zdC h6,zdC h7,zdC h8,zdC h9]
 ·exact fun h=>by rw [h]
theorem zq3 (x y:Operand) (a b:InsD) (w:World):(do eqGuard .eql 96 x y (.agg (insE.enc a).toArray) (.agg (insE.enc b).toArray);binOp .eql 96 (.agg (insE.enc a).toArray) (.agg (insE.enc b).toArray)).run Tryz.prog w = .ok (.bool (decide (a=b))) w:=by
 obtain⟨G,h,hG⟩:=tIns;rw [znc h 9997 rfl (by kernel_rfl) rfl rfl (hG a) (hG b) x y w,zeP zqH]
structure SpV (X:World) (g bx:Nat) (x:InsD) (locs after:Nat):Prop where
 c:X.heap[g]?=some (.cells (spC x locs after).toArray 314 (0,0))
 b:X.heap[bx]?=some (.cells #[At0 g] 340 (0,0))
 G:GlobC X
theorem SpV.below {X Y:World} {g bx locs after:Nat} {x:InsD} (h:SpV X g bx x locs after) (hb:Bw X Y):SpV Y g bx x locs after:=⟨zab hb h.c,zab hb h.b,h.G.below hb⟩
theorem SpV.cells {X:World} {g bx locs after:Nat} {x:InsD} (h:SpV X g bx x locs after):zav X ⟨g,0,none⟩ (spC x locs after):=zaa h.c
section
variable {g bx locs after:Nat} {x:InsD} {w:World}
theorem zre (h:SpV w g bx x locs after):CB 243 #[At0 bx] w (.bool (decide (1<=x.op.toNat)&&decide (x.op.toNat<=8))):=by
 refine cofE 16 [At0 bx] Tryz.func243 ?_;refine⟨_,zac (zaa h.b) (i:=0) rfl,_,zac h.cells (i:=0) rfl,biE (fun h1=>?_) fun h1=>?_⟩
 ·have h1:(1:Int)<=x.op.toNat:=dT h1;refine⟨_,zac (zaa h.b) (i:=0) rfl,_,zac h.cells (i:=0) rfl,rb ?_,Ja _ _⟩;rw [Ka (p:=1<=x.op.toNat) (by omega),Js,Kd];show (x.op.toNat:Int)<=8↔_;omega
 ·have h1:¬ (1:Int)<=x.op.toNat:=dF h1;refine⟨rb ?_,Ja _ _⟩;rw [Kb (p:=1<=x.op.toNat) (by omega)];rfl
theorem zrd (h:SpV w g bx x locs after) (hop:x.op.toNat<=8):CB 244 #[At0 bx] w (.bool (decide (x=zhG x))):=by
 refine cofE 9 [At0 bx] Tryz.func244 ?_;have hd:SpV w.drew g bx x locs after:=h.below (Ja _ w).drew;refine DrawE.ord [] [0,1,2,3,4,5,6,7] (by kernel_rfl) ⟨_,zac (zaa hd.b) (i:=0) rfl,insE.enc x,rfl,zaD (n:=0) (m:=10) hd.cells,hlt hd.c,_,zac (zaa hd.b) (i:=0) rfl,cmo (zoG hd.cells (hlt hd.c) hop hd.G) ?_⟩;rintro e V ⟨rfl,hb⟩;exact⟨hb,_,fun w=>zq3 _ _ x (zhG x) w,rfl,(Ja _ w).drew.trans hb⟩
theorem zrc (h:SpV w g bx x locs after):CB 246 #[At0 bx] w (.bool (decide (x.dst.toNat<8))):=by
 refine cofE 8 [At0 bx] Tryz.func246 ?_;refine⟨_,zac (zaa h.b) (i:=0) rfl,_,zac h.cells (i:=1) rfl,rb ?_,Ja _ _⟩;show decide ((x.dst.toNat:Int)<8)=_;rw [Kd];omega
theorem zrb (h:SpV w g bx x locs after) (hop:x.op.toNat<=8):CB 247 #[At0 bx] w (.bool (!hasL x.op 2||decide (x.loc.toNat<locs))):=by
 refine cofE 18 [At0 bx] Tryz.func247 ?_;have hd:SpV w.drew g bx x locs after:=h.below (Ja _ w).drew;refine DrawE.ord [] [0,1,2,3,4,5,6,7,8,9,10,11,12,13,14,15,16] (by kernel_rfl) ⟨_,zac (zaa hd.b) (i:=0) rfl,cmo (zhX 2 hd.cells hop hd.G) ?_⟩;rintro e _ ⟨rfl,rfl⟩;refine⟨Ja _ _,biE (fun h1=>?_) fun h1=>?_⟩
 ·have h1:(!hasL x.op 2)=true:=h1;exact⟨rb (by rw [h1];rfl),(Ja _ w).drew⟩
 ·have h1:(!hasL x.op 2)=false:=h1;refine⟨_,zac (zaa hd.b) (i:=0) rfl,_,zac hd.cells (i:=2) rfl,_,zaU _,_,zac (zaa hd.b) (i:=0) rfl,_,zac hd.cells (i:=10) rfl,rb ?_,(Ja _ w).drew⟩;rw [h1,Bool.false_or,Kd];omega
theorem zra (h:SpV w g bx x locs after):CB 249 #[At0 bx] w (.bool (argL x.ar x.an&&argL x.br x.bn)):=by
 refine cofE 16 [At0 bx] Tryz.func249 ?_;refine⟨_,zac (zaa h.b) (i:=0) rfl,[.bool x.ar,u8 x.an],rfl,zaD (n:=3) (m:=2) h.cells,hlt h.c,cmo (zhj x.ar x.an w) ?_⟩;rintro e V ⟨rfl,hb⟩;have hV:=h.below hb;refine biE (fun h1=>?_) fun h1=>?_
 ·have h1:argL x.ar x.an=true:=h1;refine⟨_,zac (zaa hV.b) (i:=0) rfl,[.bool x.br,u8 x.bn],rfl,zaD (n:=5) (m:=2) hV.cells,hlt hV.c,cmo (zhj x.br x.bn V) ?_⟩;rintro e U ⟨rfl,hb2⟩;exact⟨rb (by rw [h1,Js]),(zst hb hb2)⟩
 ·have h1:argL x.ar x.an=false:=h1;exact⟨rb (by rw [h1,JJ]),hb⟩
theorem zq9 (h:SpV w g bx x locs after) (hop:x.op.toNat<=8):CB 253 #[At0 bx] w (.bool (!hasL x.op 64||(decide (1<=x.skip.toNat)&&decide (x.skip.toNat<=after)))):=by
 refine cofE 26 [At0 bx] Tryz.func253 ?_;have hd:SpV w.drew g bx x locs after:=h.below (Ja _ w).drew;refine DrawE.ord [] [0,1,2,3,4,5,6,7,8,9,10,11,12,13,14,15,16,17,18,19,20,21,22,23,24] (by kernel_rfl) ⟨_,zac (zaa hd.b) (i:=0) rfl,cmo (zhX 64 hd.cells hop hd.G) ?_⟩;rintro e _ ⟨rfl,rfl⟩;refine⟨Ja _ _,biE (fun h1=>?_) fun h1=>?_⟩
 ·have h1:(!hasL x.op 64)=true:=h1;exact⟨rb (by rw [h1];rfl),(Ja _ w).drew⟩
 ·have h1:(!hasL x.op 64)=false:=h1;rw [h1,Bool.false_or];refine⟨_,zac (zaa hd.b) (i:=0) rfl,_,zac hd.cells (i:=9) rfl,biE (fun h2=>?_) fun h2=>?_⟩
  ·have h2:(1:Int)<=x.skip.toNat:=dT h2;refine⟨_,zac (zaa hd.b) (i:=0) rfl,_,zac hd.cells (i:=9) rfl,_,zaU _,_,zac (zaa hd.b) (i:=0) rfl,_,zac hd.cells (i:=11) rfl,rb ?_,(Ja _ w).drew⟩;rw [Ka (p:=1<=x.skip.toNat) (by omega),Js,Kd];omega
  ·have h2:¬ (1:Int)<=x.skip.toNat:=dF h2;refine⟨rb ?_,(Ja _ w).drew⟩;rw [Kb (p:=1<=x.skip.toNat) (by omega)];rfl
end
end Go.Proofs.YtnadlhpkpnfmbaaGreatDoor
