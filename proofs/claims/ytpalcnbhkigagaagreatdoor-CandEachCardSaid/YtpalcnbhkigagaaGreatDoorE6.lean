/- Contracts of functions, and plain facts, for the law that the last text of this claim proves. -/
import Derived.Test.YtpalcnbhkigagaaGreatDoorE2
import Derived.Test.YtpalcnbhkigagaaGreatDoorE5
import Derived.Test.YtpalcnbhkigagaaGreatDoorE3
import Derived.Test.YtpalcnbhkigagaaGreatDoorE4
set_option linter.unusedSimpArgs false
set_option linter.unusedVariables false
namespace Go.Proofs.YtpalcnbhkigagaaGreatDoor
open Go.Vc Go.RowKit Go.Sei
structure RowN {α : Type} (E : Enc α) (n0 : Nat) (F : Nat → Prop) (X : Wd) (q : OA) (l : List α) : Prop where
  row : SlR E X q l
  out : l ≠ [] → ∀ a, q = some a → a.block < n0 ∧ ¬ F a.block
theorem RowN.keep {α : Type} {E : Enc α} {n0 : Nat} {F F' G : Nat → Prop} {X Y : Wd} {q : OA} {l : List α} (h : RowN E n0 F X q l) (hn : n0 ≤ X.heap.size) (k : KeepsG G F' X Y) (hG : ∀ k, k < n0 → G k → F k) : RowN E n0 F' Y q l := by
  by_cases hne : l = []
  · exact ⟨.inl hne, fun h => (h hne).elim⟩
  · have r : RowF E n0 F X q l := ⟨h.row, h.out hne⟩
    have r2 := r.keep hn k hG
    exact ⟨r2.row, fun _ => r2.out⟩
section
variable {yl n0 cap cd : Nat} {J Jx : List RunD → (Nat → Prop) → Wd → Prop} {xs : List RunD} {l : List InsD} {dom : List UInt8} {q p : OA}
theorem zmn (hJ : JG n0 (fun _ => False) J) (hn0 : ∀ pre F X, J pre F X → n0 ≤ X.heap.size) (hy : ∀ pre x vs F W1, J pre F W1 → StR (pre ++ [x]) vs W1 → (pre ++ [x]) <+: xs → YieldR PG yl vs.toArray W1 fun v W2 =>
      (v = .bool true ∧ ∃ F', J (pre ++ [x]) F' W2 ∧ KeepsG F F' W1 W2) ∨ (v = .bool false ∧ ∃ F', Jx (pre ++ [x]) F' W2)) (ht : ThG l) (hd : dom.length ≤ 1000) :
    ∀ (n : Nat) (S : RunD) (b : Nat) (pre : List RunD) (F : Nat → Prop) (X : Wd), l.length ≤ n + S.pc → RunOk l S → jn X b S → n0 ≤ b → ¬ F b → J pre F X → RowN zH n0 F X q l → RowF zF n0 F X p dom → (pre ++ zS l dom n S) <+: xs →
      Calls PG 105 #[AtR b, .slice q l.length cap, .slice p dom.length cd, .func (.yield yl) #[] #[]] X fun e Y =>
        (e = .returned (.bool true) ∧ ∃ F', J (pre ++ zS l dom n S) F' Y ∧ KeepsG (fun k => F k ∨ k = b) F' X Y) ∨ (e = .returned (.bool false) ∧ ∃ pre' F', pre' <+: xs ∧ Jx pre' F' Y) := by
  intro n
  induction n with
  | zero =>
    intro S b pre F X hn hS fX hb hFb hj hq hdm hpre
    refine jm (S := sg 41) (za9 _) (args := [AtR b, .slice q l.length cap, .slice p dom.length cd, .func (.yield yl) #[] #[]]) Tryz.func105 rfl rfl (JT rfl) rfl ?_
    have hpc : S.pc = l.length := by have := hS.p; omega
    have hg : l[S.pc]? = none := JL (by omega)
    have e1 : goR l l.length S = S := zom hg _
    refine Gf (zdC fX hq.row (fun hne a ha => by have := (hq.out hne a ha).1; omega) ht hS) ?_
    rintro e Y ⟨rfl, fY, gY, _⟩
    rw [e1] at fY ⊢
    rw [hg]
    refine brT ?_
    have hjY := hJ.step _ _ _ _ hj (StepG.grown gY (.inl hb) hFb)
    have hs : zS l dom 0 S = [S] := by show [goR l l.length S] = _; rw [e1]
    rw [hs] at hpre ⊢
    refine YieldR.mono (hy pre S [AtR b] F Y hjY ⟨S, b, by simp, rfl, fY⟩ hpre) ?_
    rintro v Z (⟨rfl, F', hJZ, hKZ⟩ | ⟨rfl, F', hJZ⟩)
    · exact .inl ⟨rfl, F', hJZ, (KeepsG.grown (F := fun k => F k ∨ k = b) gY (.inr rfl)).trans (hKZ.weak fun k h => .inl h)⟩
    · exact .inr ⟨rfl, _, F', hpre, hJZ⟩
  | succ n ih =>
    intro S b pre F X hn hS fX hb hFb hj hq hdm hpre
    refine jm (S := sg 41) (za9 _) (args := [AtR b, .slice q l.length cap, .slice p dom.length cd, .func (.yield yl) #[] #[]]) Tryz.func105 rfl rfl (JT rfl) rfl ?_
    obtain ⟨T, hT⟩ : ∃ T, T = goR l l.length S := ⟨_, rfl⟩
    refine Gf (zdC fX hq.row (fun hne a ha => by have := (hq.out hne a ha).1; omega) ht hS) ?_
    rintro e Y ⟨rfl, fY, gY, tO, tpp⟩
    rw [← hT] at fY tO tpp ⊢
    have hjY := hJ.step _ _ _ _ hj (StepG.grown gY (.inl hb) hFb)
    have hXn := hn0 _ _ _ hj
    have kY : KeepsG (fun k => F k ∨ k = b) F X Y := ⟨gY.os, gY.tape, gY.output, gY.size, fun k hk hf => gY.block k hk (fun e => hf (.inr (by cases e; rfl))), fun k h => .inl (.inl h)⟩
    have hqY := hq.keep hXn kY (fun k hk h => h.resolve_right (by omega))
    have hdY := hdm.keep hXn kY (fun k hk h => h.resolve_right (by omega))
    cases hg : l[T.pc]? with
    | none =>
      refine brT ?_
      have hs : zS l dom (n + 1) S = [T] := by
        show (match l[(goR l l.length S).pc]? with | none => [goR l l.length S] | some x => _) = _
        rw [← hT, hg]
      rw [hs] at hpre ⊢
      refine YieldR.mono (hy pre T [AtR b] F Y hjY ⟨T, b, by simp, rfl, fY⟩ hpre) ?_
      rintro v Z (⟨rfl, F', hJZ, hKZ⟩ | ⟨rfl, F', hJZ⟩)
      · exact .inl ⟨rfl, F', hJZ, kY.trans hKZ⟩
      · exact .inr ⟨rfl, _, F', hpre, hJZ⟩
    | some x =>
      have hi : T.pc < l.length := (Jt.1 hg).1
      have hxe : l[T.pc] = x := by rw [Jw hi] at hg; exact Ui hg
      have hxi := (ht.2 _ _ hg).1
      refine brF ?_
      have hs : zS l dom (n + 1) S = dom.flatMap fun v => zS l dom n (zX T x v) := by
        show (match l[(goR l l.length S).pc]? with | none => [goR l l.length S] | some x => _) = _
        rw [← hT, hg]
      rw [hs] at hpre ⊢
      refine ⟨Nat × (Nat → Prop), fun s => ⟨[(0, AtR b), (1, .slice q l.length cap), (2, .slice p dom.length cd), (3, .func (.yield yl) #[] #[]), (19, .slice p dom.length cd), (20, i64 dom.length), (21, i64 (s.1 : Nat))], []⟩,
        fun s Z => s.1 ≤ dom.length ∧ J (pre ++ (dom.take s.1).flatMap fun v => zS l dom n (zX T x v)) s.2 Z ∧ jn Z b T ∧ ¬ s.2 b ∧ RowN zH n0 s.2 Z q l ∧ RowF zF n0 s.2 Z p dom ∧ KeepsG (fun k => F k ∨ k = b) s.2 X Z, fun s => dom.length - s.1, (0, F),
        ⟨.cons rfl (.cons rfl (.cons rfl (.cons rfl (.cons rfl (.cons rfl (.cons rfl .nil)))))), rfl⟩, ⟨Gc _, by rw [Us]; show J (pre ++ []) F Y; rw [QN]; exact hjY, fY, hFb, hqY, hdY, kY⟩, ?_⟩
      clear fY gY hjY hqY hdY kY
      rintro ⟨k, G⟩ Z ⟨hk, hjZ, fZ, hGb, hqZ, hdZ, kZ⟩
      dsimp only at hk hjZ hGb hqZ hdZ kZ ⊢
      have hZn := hn0 _ _ _ hjZ
      refine Gj (fun hc => ?_) (fun hc => ?_)
      · have hc : (k : Int) < (dom.length : Int) := Qg hc
        have hkd : k < dom.length := by omega
        obtain ⟨bp, op, hpe, hlp, hatp⟩ := hdZ.row.at hkd
        have hqr := hqZ
        obtain ⟨bq, oq, hqe, hlq, hatq⟩ := hqZ.row.at hi
        have ep : some (Value.slice p dom.length cd) = some (Value.slice (some ⟨bp, op, none⟩) dom.length cd) := by rw [hpe]
        subst hpe
        refine ⟨k, rfl, hkd, ?_⟩
        refine ⟨u8 dom[k], by have := zc (hatp k hkd) (i := 0) (v := u8 dom[k]) rfl; exact this, ?_⟩
        refine ⟨qC T, jv _, za fZ, hlt fZ, ?_⟩
        refine zn (X := Z) (v := .agg (qC T).toArray) (jM.get 112 _ rfl) (jv _) zmg (znG _) fun V hbV fV sV => ?_
        subst hqe
        have fV : jn V Z.heap.size T := fV
        refine ⟨_, zc (za fV) (i := 0) rfl, ?_⟩
        refine ⟨T.pc, rfl, hi, ?_⟩
        refine ⟨zH.enc x, rfl, by rw [← hxe]; exact zm hbV (hatq T.pc hi), KJ hlq hbV.size, ?_⟩
        refine Gf (zdL (v := dom[k]) fV tO.s (by have := tO.m; have := ht.1; omega) (by have := ht.1; omega) hxi) ?_
        rintro e U ⟨rfl, fU, gU⟩
        obtain ⟨x1, x2⟩ := jW (v := dom[k]) ht tO hg
        have hGn : ¬ G Z.heap.size := fun h => by have := (hJ.lt _ _ _ _ hjZ h).1; omega
        have hjU := hJ.step _ _ _ _ (hJ.step _ _ _ _ hjZ (StepG.below hbV)) (StepG.grown gU (.inl hZn) hGn)
        have hbU : Below Z.heap.size Z U := hbV.trans (zh gU hbV.size (UZ _))
        have kU : KeepsG G G Z U := KeepsG.below hbU fun k h => .inl h
        have hqU := hqr.keep hZn kU (fun k _ h => h)
        have hdU := hdZ.keep hZn kU (fun k _ h => h)
        have hdk : dom.flatMap (fun v => zS l dom n (zX T x v)) = (dom.take k).flatMap (fun v => zS l dom n (zX T x v)) ++ (zS l dom n (zX T x dom[k]) ++ (dom.drop (k + 1)).flatMap fun v => zS l dom n (zX T x v)) := by
          have e : dom = dom.take k ++ dom[k] :: dom.drop (k + 1) := by rw [JH, JR]
          have e2 : (dom.take k ++ dom[k] :: dom.drop (k + 1)).flatMap (fun v => zS l dom n (zX T x v)) = (dom.take k).flatMap (fun v => zS l dom n (zX T x v)) ++ (zS l dom n (zX T x dom[k]) ++ (dom.drop (k + 1)).flatMap fun v => zS l dom n (zX T x v)) := by
            rw [Kk, KW]
          rw [← e] at e2
          exact e2
        have hpk : ((pre ++ (dom.take k).flatMap fun v => zS l dom n (zX T x v)) ++ zS l dom n (zX T x dom[k])) <+: xs := by
          refine List.IsPrefix.trans ?_ hpre
          rw [hdk]
          exact ⟨(dom.drop (k + 1)).flatMap fun v => zS l dom n (zX T x v), by simp only [KT]⟩
        have htk : (dom.take (k + 1)).flatMap (fun v => zS l dom n (zX T x v)) = (dom.take k).flatMap (fun v => zS l dom n (zX T x v)) ++ zS l dom n (zX T x dom[k]) := by
          rw [Jd hkd, Kk, KW, Qt, QN]
        refine Gf (ih (zX T x dom[k]) Z.heap.size (pre ++ (dom.take k).flatMap fun v => zS l dom n (zX T x v)) G U (by omega) x1 fU hZn hGn hjU hqU hdU hpk) ?_
        rintro e V' (⟨rfl, F', hjV, kV⟩ | ⟨rfl, pre', F', hp', hjx⟩)
        · refine brF ?_
          have kW : KeepsG G F' Z V' := ⟨kV.os.trans kU.os, kV.tape.trans kU.tape, kV.output.trans kU.output, UP kU.size kV.size, fun i hi hf => (kV.same i (KJ hi kU.size) (fun h => by
            rcases h with h | h
            · exact hf h
            · omega)).trans (kU.same i hi hf), fun i h => by
            have := kU.size
            rcases kV.fp i h with (h2 | h2) | h2
            · exact .inl h2
            · exact .inr (by omega)
            · exact .inr (by omega)⟩
          have hbZ := hlt fZ
          refine ⟨((k + 1 : Nat) : Int), (ze (by omega)).trans (by omega), ?_⟩
          refine ⟨(k + 1, F'), ⟨.cons rfl (.cons rfl (.cons rfl (.cons rfl (.cons rfl (.cons rfl (.cons rfl .nil)))))), rfl⟩, ⟨hkd, ?_, (kW.same b hbZ hGb).trans fZ, fun h => ?_, hqr.keep hZn kW (fun _ _ h => h), hdZ.keep hZn kW (fun _ _ h => h), kZ.trans kW⟩, by show dom.length - (k + 1) < dom.length - k; omega⟩
          · show J (pre ++ (dom.take (k + 1)).flatMap fun v => zS l dom n (zX T x v)) F' V'
            rw [htk, ← KT]
            exact hjV
          · rcases kW.fp b h with h2 | h2
            · exact hGb h2
            · omega
        · refine brT ?_
          exact .inr ⟨rfl, pre', F', hp', hjx⟩
      · have hc : ¬ (k : Int) < (dom.length : Int) := KM hc
        obtain rfl : k = dom.length := by omega
        rw [QA] at hjZ
        exact .inl ⟨rfl, G, hjZ, kZ⟩
theorem ziz {bi bd : Nat} {W0 : Wd} (hl : SlR zH W0 q l) (hp : SlR zF W0 p dom) (fi : W0.heap[bi]? = some (.cells #[.slice q l.length cap] 42 (0, 0))) (fd : W0.heap[bd]? = some (.cells #[.slice p dom.length cd] 23 (0, 0))) (hql : l ≠ [] → ∀ a, q = some a → a.block < W0.heap.size) (hpl : ∀ a, p = some a → a.block < W0.heap.size) (ht : ThG l) (hd : dom.length ≤ 1000) :
    zhY PG 104 [AtR bi, AtR bd] (qs l dom) W0 (fun k => (k = bi ∨ k = bd) ∨ (l ≠ [] ∧ ∃ a, q = some a ∧ k = a.block) ∨ ∃ a, p = some a ∧ k = a.block) (fun _ => False) StR := by
  intro yl F0 J Jx W hsz hrd hrf hJ hJx hy h0
  refine jm (S := sg 9) (za9 _) (args := [.func (.yield yl) #[] #[], AtR bi, AtR bd]) Tryz.func104 rfl rfl (JT rfl) rfl ?_
  obtain ⟨X, hX⟩ : ∃ X, X = W.alloc (.cells (qC zdz).toArray 112) := ⟨_, rfl⟩
  have hbX : Below W.heap.size W X := by rw [hX]; exact (Ge _ W).alloc (UZ _) _
  have fX : jn X W.heap.size zdz := by rw [hX]; exact zz W _
  have ez : ziN = qC zdz := by kernel_rfl
  have hX' : W.alloc (.cells (ziN).toArray 112) = X := by rw [hX, ez]
  have fiW := (hrd bi (.inl (.inl (.inl rfl)))).trans fi
  have fdW := (hrd bd (.inl (.inl (.inr rfl)))).trans fd
  have hjX := hJ.step _ _ _ _ h0 (StepG.below hbX)
  have hF : ¬ F0 W.heap.size := fun h => by have := (hJ.lt _ _ _ _ h0 h).1; omega
  have hlX : RowN zH W.heap.size F0 X q l := by
    by_cases hne : l = []
    · exact ⟨.inl hne, fun h => (h hne).elim⟩
    · exact ⟨qV hl fun a ha => (hbX.block _ (by have := hql hne a ha; omega)).trans (hrd _ (.inl (.inr (.inl ⟨hne, a, ha, rfl⟩)))), fun _ a ha => ⟨by have := hql hne a ha; omega, hrf _ (.inr (.inl ⟨hne, a, ha, rfl⟩))⟩⟩
  have hpX : RowF zF W.heap.size F0 X p dom := ⟨qV hp fun a ha => (hbX.block _ (by have := hpl a ha; omega)).trans (hrd _ (.inl (.inr (.inr ⟨a, ha, rfl⟩)))), fun a ha => ⟨by have := hpl a ha; omega, hrf _ (.inr (.inr ⟨a, ha, rfl⟩))⟩⟩
  refine ⟨_, by rw [hX']; exact zc (za (zb hbX fiW)) (i := 0) rfl, ?_⟩
  refine ⟨_, by rw [hX']; exact zc (za (zb hbX fdW)) (i := 0) rfl, ?_⟩
  rw [hX']
  have hJn : JG W.heap.size (fun _ => False) (fun pre F Z => J pre F Z ∧ W.heap.size ≤ Z.heap.size) := ⟨fun s F A B ⟨h, hn⟩ hs => ⟨hJ.step _ _ _ _ h hs, UP hn hs.size⟩, fun s F A k ⟨h, _⟩ hk => hJ.lt _ _ _ _ h hk⟩
  refine Gf (zmn (xs := qs l dom) (Jx := Jx) hJn (fun _ _ _ h => h.2) (fun pre x vs F W1 ⟨hj, hn⟩ hst hpre => YieldR.mono (hy pre x vs F W1 hj hst hpre) fun v W2 h => ?_) ht hd l.length zdz W.heap.size [] F0 X (UZ _) (zd0 l) fX (UZ _) hF ⟨hjX, hbX.size⟩ hlX hpX (List.prefix_refl _)) ?_
  · rcases h with ⟨rfl, F', h1, h2⟩ | h
    · exact .inl ⟨rfl, F', ⟨h1, UP hn h2.size⟩, h2⟩
    · exact .inr h
  · rintro e Y (⟨rfl, F', ⟨hj, _⟩, _⟩ | ⟨rfl, pre', F', h1, h2⟩)
    · exact ⟨⟨_, rfl⟩, .inl ⟨F', hj⟩⟩
    · exact ⟨⟨_, rfl⟩, .inr ⟨pre', F', h1, h2⟩⟩
end
section
variable {l:List InsD} {vals:List UInt8} {q p:OA} {cap cd:Nat} {w:Wd}
theorem zo6 (hl:SlR zH w q l) (hp:SlR zF w p vals) (hv1:1<=vals.length) (hvm:vals.length<=60000) (hok:qc l 6=true) (hG:GlobE w) (hqb:l≠[]->∀ a,q=some a->a.block<w.heap.size) :
  Calls PG 44 #[.slice q l.length cap,.slice p vals.length cd,i64 4096] w fun e w'=>((∃ (xs:List zc0) (p':OA) (c':Nat),(qs l (je vals)).length<=4096/\e = .returned (.tuple #[.slice p' xs.length c',i64 0])/\xs.map (·.1)=(qs l (je vals)).map jC/\OwnS jG 73 w.heap.size w' p' c' xs/\∀ x∈xs,PthO w.heap.size w' x)\/(4096<(qs l (je vals)).length/\e = .returned (.tuple #[.slice none 0 0,i64 5])))/\Bw w w':=by
 have ht:=zeH hok;have h12:l.length<=12:=ht.1;refine jf 45 [.slice q l.length cap,.slice p vals.length cd,i64 4096] (.c .p (.s .p (.c .p (.c .p (.c .p (.c .p .p)))))) Tryz.func44 ?_;obtain⟨L,hL⟩:=nm (w.heap.size);refine⟨Unit,fun _=>⟨[(0,.slice q l.length cap),(1,.slice p vals.length cd),(5,AtR L),(6,AtR (L+1)),(7,AtR (L+2))],[]⟩,fun _ X=>X.heap[L]?=some (.cells #[i64 4096] 3 (0,0))/\X.heap[L+1]?=some (.cells #[.slice none 0 0] 78 (0,0))/\X.heap[L+2]?=some (.cells #[i64 0] 34 (0,0))/\X.heap.size=L+3/\Bw w X,?_,?_⟩
 ·have s1:=wz w (.cells #[i64 4096] 3);have h2:=zz (w.alloc (.cells #[i64 4096] 3)) (.cells #[.slice none 0 0] 78);have s2:=wz (w.alloc (.cells #[i64 4096] 3)) (.cells #[.slice none 0 0] 78);have h3:=zz ((w.alloc (.cells #[i64 4096] 3)).alloc (.cells #[.slice none 0 0] 78)) (.cells #[i64 0] 34);have s3:=wz ((w.alloc (.cells #[i64 4096] 3)).alloc (.cells #[.slice none 0 0] 78)) (.cells #[i64 0] 34);rw [s1] at h2 s2;rw [s2] at h3 s3;refine⟨(),⟨.cons rfl (.cons rfl (.cons (by rw [hL];rfl) (.cons (by rw [hL,<- s1];rfl) (.cons (by rw [hL,<- s2];rfl) .nil)))),rfl⟩,?_,?_,?_,?_,?_⟩
  ·rw [hL];exact qH _ (qH _ (zz w _))
  ·rw [hL];exact qH _ h2
  ·rw [hL];exact h3
  ·rw [hL];exact s3
  ·exact (((zba w _)).alloc (by simp) _).alloc (by simp;omega) _
 rintro _ X ⟨f0,f1,f2,sX,hbX⟩;refine⟨_,zc (za f0) (i:=0) rfl,brF ⟨_,zc (za f0) (i:=0) rfl,brF (cmo (zli (hl.below hbX) (hG.c.below hbX) (by omega)) ?_)⟩⟩;rintro e Y ⟨rfl,hbY⟩;rw [hok];refine brF ?_;have hwY:=zst hbX hbY;have f0:=zb hbY f0;have f1:=zb hbY f1;have f2:=zb hbY f2;have sY:=hbY.size;obtain⟨D,hD⟩:=nm (je vals);have hdl:D.length<=256:=by rw [hD];exact zdg vals
 have hR:∀ R∈qs l D,R.many<=24/\zsn R:=fun R h=>⟨(zfJ ht D R h).1,fun i _=>(zfJ ht D R h).2 i⟩;rw [<- hD];refine⟨OA×Nat,fun s=>⟨[(0,.slice q l.length cap),(1,.slice s.1 D.length s.2),(5,AtR L),(6,AtR (L+1)),(7,AtR (L+2))],[]⟩,fun s Z=>OwnS zF 5 (L+3) Z s.1 s.2 D/\Bw Y Z,?_,?_⟩
 ·refine cmo (zcV (hp.below hwY) hv1 hvm) ?_;rintro e Z ⟨⟨d,cc,rfl,ho⟩,hbZ⟩;rw [<- hD] at ho;exact⟨(d,cc),⟨.cons rfl (.cons (by rw [hD];rfl) (.cons rfl (.cons rfl (.cons rfl .nil)))),rfl⟩,OwnS.lower ho (by omega),hbZ⟩
 rintro⟨d,cc⟩ Z ⟨oD,hbZ⟩;dsimp only at oD ⊢;have hwZ:=zst hwY hbZ;have f0:=zb hbZ f0;have f1:=zb hbZ f1;have f2:=zb hbZ f2;have sZ:=hbZ.size;obtain⟨N,hN⟩:=nm (Z.heap.size);refine⟨Unit,fun _=>⟨[(0,.slice q l.length cap),(1,.slice d D.length cc),(5,AtR L),(6,AtR (L+1)),(7,AtR (L+2)),(8,AtR N)],[]⟩,fun _ V=>V.heap[N]?=some (.cells [i64 0].toArray 3 (0,0))/\V.heap.size=N+1/\Bw Z V,?_,?_⟩
 ·exact zn (X:=Z) (v:=i64 0) k3 rfl rfl rfl fun V hbV fV sV=>⟨(),⟨.cons rfl (.cons rfl (.cons rfl (.cons rfl (.cons rfl (.cons (by rw [hN];rfl) .nil))))),rfl⟩,by rw [hN];exact fV,by rw [hN];exact sV,hbV⟩
 rintro _ V ⟨fN,sV,hbV⟩;have hwV:=zst hwZ hbV;have f0:=zb hbV f0;have f1:=zb hbV f1;have f2:=zb hbV f2;have dlt:∀ a,d=some a->a.block<N:=fun a ha=>by rw [hN];exact (zai oD ha).2.1
 have oD:=oD.below hbV;have hNZ:w.heap.size<=N:=by rw [hN];exact hwZ.size
 have hNL:L+3<=N:=by omega
 obtain⟨xs0,hxs0⟩:=nm (qs l D);rw [<- hxs0] at hR ⊢;have dge:∀ a,d=some a->L+3<=a.block:=fun a ha=>(zai oD ha).1;refine⟨Nat,fun D1=>⟨[(0,.slice q l.length cap),(1,.slice d D.length cc),(5,AtR L),(6,AtR (L+1)),(7,AtR (L+2)),(8,AtR N)],[{ target := .collected D1,args := #[] }]⟩,fun D1 U=>xs0.length<=4096/\U.heap[N]?=some (.cells #[i64 xs0.length] 3 (0,0))/\U.heap[D1]?=some (.deferred (some []))/\N<D1/\V.grownBy U (some N),?_,?_⟩
 ·refine cmo ziA ?_;rintro e W ⟨rfl,fi,fd,sW,hbW⟩;have hwW:=zst hwV hbW;have fNW:=zb hbW fN;have f0W:=zb hbW f0;have f1W:=zb hbW f1;have f2W:=zb hbW f2;have qlt:l≠[]->∀ a,q=some a->a.block<w.heap.size:=hqb;have hI:=ziz (q:=q) (p:=d) (hl.below hwW) (oD.below hbW).row fi fd (fun hne a ha=>by have:=qlt hne a ha;have:=hwW.size;omega) (fun a ha=>by have:=dlt a ha;omega) ht (by omega);rw [<- hxs0] at hI;obtain⟨F0,hF0⟩:∃ F0:Nat->Prop,F0=fun k=>k=N\/k=L+1\/k=L+2:=⟨_,rfl⟩;refine zcK (za9 _) rfl (lb := #[AtR V.heap.size,AtR (V.heap.size+1)]) rfl rfl hI (UZ _) (fun k hk=>⟨?_,rfl⟩) (fun pre vs W ⟨R,b,_,h,_⟩=>by rw [h];rfl) (by decide)
   F0 (fun pre F Y=>F=F0/\W.heap.size<=Y.heap.size/\pre.length<=4096/\Y.heap[N]?=some (.cells [i64 pre.length].toArray 3 (0,0))/\W.grownBy Y (some N))
   (fun ex pre F Y=>F=F0/\W.heap.size<=Y.heap.size/\ex = .ret/\4096<xs0.length/\Y.heap[L+1]?=some (.cells #[.slice none 0 0] 78 (0,0))/\Y.heap[L+2]?=some (.cells #[i64 5] 34 (0,0))/\Below L W Y) (fun k hk=>?_)
   (joG (F:=F0) (J:=fun (pre:List RunD) Y=>W.heap.size<=Y.heap.size/\pre.length<=4096/\Y.heap[N]?=some (.cells [i64 pre.length].toArray 3 (0,0))/\W.grownBy Y (some N)) (fun k h=>by rw [hF0] at h;omega) (fun s A h=>h.1) (fun pre A B ⟨h1,h2,h3,h4⟩ hb=>⟨UP h1 hb.size,h2,jg hb (by omega) h3,jj h4 hb⟩))
   (fun ex=>joG (F:=F0) (J:=fun (pre:List RunD) Y=>W.heap.size<=Y.heap.size/\ex = .ret/\4096<xs0.length/\Y.heap[L+1]?=some (.cells #[.slice none 0 0] 78 (0,0))/\Y.heap[L+2]?=some (.cells #[i64 5] 34 (0,0))/\Below L W Y) (fun k h=>by rw [hF0] at h;omega) (fun s A h=>h.1) (fun pre A B ⟨h1,h2,h3,h4,h5,h6⟩ hb=>⟨UP h1 hb.size,h2,h3,jg hb (by omega) h4,jg hb (by omega) h5,h6.trans (hb.mono (by omega))⟩))
   ⟨rfl,UZ _,Gc _,fNW,z5 _ _⟩ ?_ ?_ ?_
  ·rcases hk with ((rfl | rfl) | ⟨hne,a,ha,rfl⟩ | ⟨a,ha,rfl⟩) | h
   ·omega
   ·omega
   ·have:=qlt hne a ha;have:=hwW.size;omega
   ·have:=dlt a ha;omega
   ·exact h.elim
  ·rw [hF0];rcases hk with (rfl | rfl) | ⟨hne,a,ha,rfl⟩ | ⟨a,ha,rfl⟩
   ·omega
   ·omega
   ·have:=qlt hne a ha;omega
   ·have:=dlt a ha;have:=dge a ha;omega
  ·rintro yl pre x vs F Y hyl hpre hJ ⟨R',b',_,rfl,_⟩ hfy hlo;refine⟨rfl,F,KeepsG.refl _ _,hJ,?_⟩;rintro o Y2 hY2 ⟨rfl,h1,h4,h2,h3⟩;have hpl:pre.length<xs0.length:=by
    obtain⟨t,ht⟩:=hpre;rw [<- ht];simp only [lap,Qw];omega
   have g0:Y2.heap[L]?=some (.cells #[i64 4096] 3 (0,0)):=(h3.block L (hlt f0W) (by simp;omega)).trans f0W;refine⟨_,zc (za h2) (i:=0) rfl,_,zc (za g0) (i:=0) rfl,biE (fun hc=>?_) fun hc=>?_⟩
   ·have hc:(pre.length:Int)=4096:=dT hc;have g1:Y2.heap[L+1]?=some (.cells #[.slice none 0 0] 78 (0,0)):=(h3.block (L+1) (hlt f1W) (by simp;omega)).trans f1W;have g2:Y2.heap[L+2]?=some (.cells #[i64 0] 34 (0,0)):=(h3.block (L+2) (hlt f2W) (by simp;omega)).trans f2W;refine zj k78 g1 (o:=0) (v := .slice none 0 0) rfl rfl (by show 0<1;decide) rfl fun Z1 fZ1 gZ1 sZ1=>?_;have g2':=(gZ1.block (L+2) (hlt g2) (by simp)).trans g2;exact zj k34 g2' (o:=0) (v:=i64 5) rfl rfl (by show 0<1;decide) rfl fun Z2 fZ2 gZ2 sZ2=>⟨F,⟨rfl,by omega,rfl,by omega,(gZ2.block (L+1) (hlt fZ1) (by simp)).trans fZ1,fZ2,gZ2.os.trans (gZ1.os.trans h3.os),gZ2.tape.trans (gZ1.tape.trans h3.tape),gZ2.output.trans (gZ1.output.trans h3.output),by omega,fun k hk=>(gZ2.block k (by omega) (by simp;omega)).trans ((gZ1.block k (by omega) (by simp;omega)).trans (h3.block k (by omega) (by simp;omega)))⟩,(KeepsG.grown (F:=F) gZ1 (by rw [hF0];exact .inr (.inl rfl))).trans (KeepsG.grown (F:=F) gZ2 (by rw [hF0];exact .inr (.inr rfl)))⟩
   ·have hc:¬ (pre.length:Int)=4096:=dF hc;refine⟨_,zc (za h2) (i:=0) rfl,((pre.length+1:Nat):Int),(ze (by omega)).trans (by omega),zj k3 h2 (o:=0) (v:=i64 (pre.length+1:Nat)) rfl rfl (by show 0<1;decide) rfl fun Z fZ gZ sZ=>⟨_,⟨rfl,by omega,by rw [lap];show pre.length+1<=4096;omega,?_,zd h3 gZ⟩,KeepsG.grown (F:=F) gZ (by rw [hF0];exact .inl rfl)⟩⟩;rw [lap];exact fZ
  ·rintro D1 F Y hD hfD ⟨rfl,h1,h4,h2,h3⟩ hdef;refine⟨D1,(cvE rfl rfl),h4,h2,hdef,by omega,?_⟩;exact zd (zf hbW) h3
  ·rintro D ex pre F Y hD hfD hpre ⟨rfl,h1,rfl,hlong,g1,g2,hbY⟩ hdef;refine⟨_,rfl,hdef,.slice none 0 0,zc (za ((zg (by omega)).trans g1)) (i:=0) rfl,i64 5,zc (za ((zg (by omega)).trans g2)) (i:=0) rfl,.inr ⟨hlong,rfl⟩,?_⟩;have hwY:=hwW.trans (hbY.mono (by omega));exact qO hwY (by have:=hwV.size;omega) _
 clear fN sV;rintro D1 U ⟨hm,fN,fD1,hND,gU⟩;have old:∀ {k:Nat} {o:Obj},k≠N->V.heap[k]?=some o->U.heap[k]?=some o:=fun {k o} hne h=>(gU.block k (hlt h) (by simpa using hne)).trans h;have sU:=gU.size;have hNV:=hbV.size;have f1:=old (by omega) f1;have f2:=old (by omega) f2;have oD:OwnS zF 5 (L+3) U d cc D:=oD.kept gU fun g hg e=>by
  have:g<N:=dlt _ hg;simp only [Qd] at e;omega
 have hwU:Bw w U:=hwV.trans ⟨gU.os,gU.tape,gU.output,gU.size,fun k hk=>gU.block k (by have:=hwV.size;omega) (by simp;omega)⟩;clear f0 old gU hbV hwV;obtain⟨M,hM⟩:=nm (U.heap.size);have hDU:=hlt fD1;refine⟨OA×Nat,fun s=>⟨[(0,.slice q l.length cap),(1,.slice d D.length cc),(6,AtR (L+1)),(7,AtR (L+2)),(9,AtR (M+1))],[{ target := .collected D1,args := #[] }]⟩,fun s Z=>Z.heap[M+1]?=some (.cells [.slice s.1 0 s.2].toArray 78 (0,0))/\OwnS jG 73 M Z s.1 s.2 []/\(∀ a,s.1=some a->a.block=M)/\Z.heap.size=M+2/\Bw U Z,?_,?_⟩
 ·refine⟨_,zc (za fN) (i:=0) rfl,zcQ (E:=jG) Tryz.underlying78 k73 rfl rfl rfl xs0.length (by show 104*_<=_;omega) (by unfold maxLen;omega) fun Z oZ hbZ' sZ'=>zn (X:=Z) (v := .slice (some ⟨U.heap.size,0,none⟩) 0 xs0.length) k78 rfl rfl rfl fun Z2 hbZ2 fZ2 sZ2=>?_⟩;rw [<- hM] at oZ sZ';rw [sZ'] at fZ2 sZ2;refine⟨(some ⟨M,0,none⟩,xs0.length),⟨.cons rfl (.cons rfl (.cons rfl (.cons rfl (.cons (by rw [<- sZ'];rfl) .nil)))),rfl⟩,by rw [hM] at fZ2 ⊢;exact fZ2,oZ.below hbZ2,fun a ha=>by cases ha;rfl,sZ2,hbZ'.trans (hbZ2.mono hbZ'.size)⟩
 clear fN;rintro⟨p0,c0⟩ V ⟨fV,oV,p0M,sV,hbV⟩;dsimp only at fV oV p0M;have f1:=zb hbV f1;have f2:=zb hbV f2;have fD1:=zb hbV fD1;have oD:=oD.below hbV;have hwV:=zst hwU hbV;have hMU:w.heap.size<=M:=by rw [hM];exact hwU.size
 have dlt2:∀ a,d=some a->a.block<N:=dlt;refine cmo ziA ?_;rintro e W ⟨rfl,fi,fd,sW,hbW⟩;have hwW:=zst hwV hbW;have hVM:Bw V W:=hbW;have hI:=ziz (q:=q) (p:=d) (hl.below hwW) (oD.below hbW).row fi fd (fun hne a ha=>by have:=hqb hne a ha;have:=hwW.size;omega) (fun a ha=>by have:=dlt a ha;omega) ht (by omega);rw [<- hxs0] at hI;refine zcK (za9 _) rfl (lb := #[AtR V.heap.size,AtR (V.heap.size+1)]) rfl rfl hI (UZ _) (fun k hk=>⟨?_,rfl⟩) (fun pre vs W ⟨R,b,_,h,_⟩=>by rw [h];rfl) (by decide)
  (fun k=>k=M+1\/k=M) (JPa M W.heap.size (M+1) W) (fun _ _ _ _=>False) (fun k hk=>?_)
  (JPa.iter (by omega) rfl) (fun ex=>⟨fun _ _ _ _ h=>h.elim,fun _ _ _ _ h=>h.elim⟩) ⟨⟨UZ _,.inl rfl,fun k hk=>by omega⟩,⟨[],p0,c0,zb hbW fV,⟨oV.below hbW,fun a ha => .inr (p0M a ha)⟩,rfl,fun x hx=>(by cases hx)⟩,Ge _ _⟩ ?_ ?_ ?_
 ·rcases hk with ((rfl | rfl) | ⟨hne,a,ha,rfl⟩ | ⟨a,ha,rfl⟩) | h
  ·omega
  ·omega
  ·have:=hqb hne a ha;have:=hwW.size;omega
  ·have:=dlt a ha;omega
  ·exact h.elim
 ·rcases hk with (rfl | rfl) | ⟨hne,a,ha,rfl⟩ | ⟨a,ha,rfl⟩
  ·omega
  ·omega
  ·have:=hqb hne a ha;omega
  ·have:=dlt a ha;omega
 ·rintro yl pre x vs F Y hyl hpre hJ ⟨R,b,hlast,rfl,fR⟩ hfy ⟨lo,hlo⟩;have hxR:x=R:=by simpa using hlast
  subst hxR;refine⟨rfl,F,KeepsG.refl _ _,hJ,?_⟩;rintro o Y2 hY2 ⟨⟨h1,h2,h3⟩,⟨xs,p,c,h4,h5,h6,h7⟩,h8⟩;have hbl:b≠yl:=fun e=>by
   rw [e] at fR;rw [fR] at hlo
   cases hlo
  have fR2:jn Y2 b x:=by rw [hY2];exact (zg hbl).trans fR
  have hmem:x∈xs0:=hpre.subset (by simp);obtain⟨r1,r2⟩:=hR x hmem;have hxl:xs.length=pre.length:=by
   have:=Gm List.length h6;rw [QR,QR] at this;exact this
  have hpl:pre.length<xs0.length:=by
   obtain⟨t,ht⟩:=hpre;rw [<- ht];simp only [lap,Qw];omega
  have hwY2:Bw w Y2:=hwW.trans (h8.mono hMU);have hd2:Bw Y2 Y2.drew:=(Ge _ _).drew;have hwY2d:Bw w Y2.drew:=zst hwY2 hd2;refine DrawE.ord [4,5] [0,1,2,3,4,5] (by kernel_rfl) ⟨_,zc (za (hdr h4)) (i:=0) rfl,cmo (znV (hdr fR2) r1 r2 (hG.t32.below hwY2d)) ?_⟩;rintro e Y3 ⟨⟨q1,k1,q2,k2,q3,k3,q4,k4,rfl,o1,o2,o3,o4⟩,hb3⟩;refine⟨hb3,?_⟩;obtain⟨nx,hnx⟩:∃ nx:zc0,nx=(jC x,(q1,k1),(q2,k2),(q3,k3),(q4,k4)):=⟨_,rfl⟩;have hen:zcL (jC x) q1 k1 q2 k2 q3 k3 q4 k4=jG.enc nx:=by rw [hnx];rfl
  rw [hen];refine⟨⟨by decide,by decide,rfl⟩,jG.enc nx,zaA (jG.len nx) rfl,?_⟩;have hba:Bw Y3 (Y3.alloc (.cells (jG.enc nx).toArray 73)):=zba _ _;have sa:(Y3.alloc (.cells (jG.enc nx).toArray 73)).heap.size=Y3.heap.size+1:=wz _ _;have s3:Y2.heap.size<=Y3.heap.size:=hb3.size;refine⟨hba,?_⟩;have hb2:Bw Y2 (Y3.alloc (.cells (jG.enc nx).toArray 73)):=(hd2.trans hb3).trans (hba.mono s3);refine jx (E:=jG) (T:=73) (B:=M) (l:=xs) (news:=[nx]) (cap:=c) (m:=1) Tryz.underlying78 k73 rfl rfl rfl (h5.own.below hb2) rfl (qG jG nx) (by omega) (by omega) (by show (xs.length+1)*104<=_;omega) ?_;intro p2 c2 Y5 o5 g5 hb5 hat;have h4':Y5.heap[M+1]?=some (.cells [.slice p xs.length c].toArray 78 (0,0)):=by
   refine (g5.block (M+1) (hlt (zb hb2 h4)) fun e=>?_).trans (zb hb2 h4)
   cases hp:p with
   | none=>rw [hp] at e;simp [Value.ownBlock] at e
   | some a =>
    rw [hp] at e;simp only [Value.ownBlock,Qd] at e;obtain⟨_,_,cur,hcur⟩:=zai h5.own hp;rw [<- e] at hcur;rw [hcur] at h4;simp at h4
  refine zj k78 h4' (o:=0) (v := .slice p2 (xs++[nx]).length c2) rfl rfl (by show 0<1;decide) rfl fun Z fZ gZ sZ=>?_;have s5:=g5.size;have wr:∀ k,k<Y2.heap.size->k≠M+1->(∀ a,p=some a->k≠a.block)->Z.heap[k]?=Y2.heap[k]?:=fun k hk hne hnp=>by
   refine (gZ.block k (by omega) (by simpa using hne)).trans ((g5.block k (by omega) fun e=>?_).trans (hb2.block k hk))
   cases hp:p with
   | none=>rw [hp] at e;simp [Value.ownBlock] at e
   | some a =>
    rw [hp] at e;simp only [Value.ownBlock,Qd] at e;exact hnp a hp e
  have new:∀ k,Y2.heap.size<=k->k<Y3.heap.size->Z.heap[k]?=Y3.heap[k]?:=fun k hk1 hk2=>by
   refine (gZ.block k (by omega) (by simp;omega)).trans ((g5.block k (by omega) fun e=>?_).trans (hba.block k hk2))
   cases hp:p with
   | none=>rw [hp] at e;simp [Value.ownBlock] at e
   | some a =>
    rw [hp] at e;simp only [Value.ownBlock,Qd] at e;have:=h3 _ (h5.inF a hp);omega
  have tyne:∀ {α:Type} {E:Enc α} {T c:Nat} {r:OA} {B:Nat} {ll:List α},T≠73->T≠78->OwnS E T B Y2 r c ll->∀ a,r=some a->Z.heap[a.block]?=Y2.heap[a.block]?:=fun {α E T c r B ll} t1 t2 ho a ha=>by
   obtain⟨_,hl2,cur,hcur⟩:=zai ho ha;refine wr _ hl2 (fun e=>?_) (fun a' ha' e=>?_)
   ·rw [e,h4] at hcur;simp at hcur;exact t2 hcur.2.symm
   ·obtain⟨_,_,cur',hcur'⟩:=zai h5.own ha';rw [e,hcur'] at hcur;simp at hcur;exact t1 hcur.2.symm
  have inNew:∀ {α:Type} {E:Enc α} {T c:Nat} {r:OA} {ll:List α},OwnS E T Y2.drew.heap.size Y3 r c ll->RowIn E T W.heap.size (fun k=>F k\/(Y2.heap.size<=k/\k<Z.heap.size)) Z r c ll:=fun {α E T c r ll} ho=>by
   refine⟨OwnS.lower (ho.same fun a ha=>?_) h1,fun a ha=>?_⟩
   ·have:=zai ho ha;exact new _ this.1 this.2.1
   ·have h:=zai ho ha;have ha1:Y2.heap.size<=a.block:=h.1;exact .inr ⟨ha1,by have:=h.2.1;omega⟩
  refine⟨fun k=>F k\/(Y2.heap.size<=k/\k<Z.heap.size),⟨⟨by omega,.inl h2,fun k hk=>?_⟩,⟨xs++[nx],p2,c2,fZ,⟨o5.kept gZ fun g hg e=>?_,fun a ha=>?_⟩,?_,fun y hy=>?_⟩,?_⟩,⟨gZ.os.trans (g5.os.trans hb2.os),gZ.tape.trans (g5.tape.trans hb2.tape),gZ.output.trans (g5.output.trans hb2.output),by omega,fun k hk hf=>wr k hk (fun e=>hf (by rw [e];exact h2)) (fun a ha e=>hf (by rw [e];exact h5.inF a ha)),fun k hk=>hk.imp id fun h=>h.1⟩⟩
  ·rcases hk with hk | hk
   ·have:=h3 k hk;omega
   ·exact hk.2
  ·have:=zai o5 hg;obtain⟨_,_,cur,hcur⟩:=this;simp only [Qd] at e;have hcur:Y5.heap[g]?=_:=hcur;rw [<- e,h4'] at hcur;simp at hcur
  ·rcases hat a ha with h | h
   ·exact .inl (h5.inF a h)
   ·have:=(zai o5 ha).2.1;exact .inr ⟨by omega,by omega⟩
  ·rw [QU,h6,QU,hnx];rfl
  ·rcases QV.1 hy with hy | hy
   ·have h:=h7 y hy;have st:∀ {α:Type} {E:Enc α} {T c:Nat} {r:OA} {ll:List α},T≠73->T≠78->RowIn E T W.heap.size F Y2 r c ll->RowIn E T W.heap.size (fun k=>F k\/(Y2.heap.size<=k/\k<Z.heap.size)) Z r c ll:=fun {α E T c r ll} t1 t2 hh=>⟨hh.own.same fun a ha=>tyne t1 t2 hh.own a ha,fun a ha => .inl (hh.inF a ha)⟩;exact⟨st (by decide) (by decide) h.1,st (by decide) (by decide) h.2.1,st (by decide) (by decide) h.2.2.1,st (by decide) (by decide) h.2.2.2⟩
   ·simp only [KE] at hy;subst hy;rw [hnx];exact⟨inNew o1,inNew o2,inNew o3,inNew o4⟩
  ·refine h8.trans ⟨gZ.os.trans (g5.os.trans hb2.os),gZ.tape.trans (g5.tape.trans hb2.tape),gZ.output.trans (g5.output.trans hb2.output),by omega,fun k hk=>wr k (by omega) (by omega) fun a ha=>?_⟩;have:=(zai h5.own ha).1;omega
 ·rintro D2 F Y hD hfD ⟨⟨h1,h2,h3⟩,⟨xs,p,c,h4,h5,h6,h7⟩,h8⟩ hdef;have g1:Y.heap[L+1]?=some (.cells #[.slice none 0 0] 78 (0,0)):=(h8.block (L+1) (by omega)).trans (zb hbW f1);have g2:Y.heap[L+2]?=some (.cells #[i64 0] 34 (0,0)):=(h8.block (L+2) (by omega)).trans (zb hbW f2);have gD:Y.heap[D1]?=some (.deferred (some [])):=(h8.block D1 (by omega)).trans (zb hbW fD1);refine⟨_,zc (za h4) (i:=0) rfl,zj k78 g1 (o:=0) (v := .slice p xs.length c) rfl rfl (by show 0<1;decide) rfl fun Z1 fZ1 gZ1 sZ1=>?_⟩;have g2':=(gZ1.block (L+2) (hlt g2) (by simp)).trans g2;refine zj k34 g2' (o:=0) (v:=i64 0) rfl rfl (by show 0<1;decide) rfl fun Z2 fZ2 gZ2 sZ2=>?_;have hYs:M<Y.heap.size:=by omega
  have k2:∀ k,k<Y.heap.size->k≠L+1->k≠L+2->Z2.heap[k]?=Y.heap[k]?:=fun k hk n1 n2=>(gZ2.block k (by rw [sZ1];exact hk) (by simpa using n2)).trans (gZ1.block k hk (by simpa using n1));have hdef2:=(k2 D2 (hlt hdef) (by omega) (by omega)).trans hdef;have hD12:=(k2 D1 (hlt gD) (by omega) (by omega)).trans gD;have fZ1':=(gZ2.block (L+1) (hlt fZ1) (by simp)).trans fZ1;have neD:D1≠D2:=by omega
  refine⟨_,rfl,hdef2,_,rfl,(zg neD).trans hD12,?_⟩;obtain⟨Zf,hZf⟩:=nm ((Z2.putObj D2 (.deferred none)).putObj D1 (.deferred none));have kf:∀ k,k≠D1->k≠D2->Zf.heap[k]?=Z2.heap[k]?:=fun k n1 n2=>by rw [hZf];exact (zg n1).trans (zg n2)
  refine⟨.slice p xs.length c,?_,i64 0,?_,.inl ⟨xs,p,c,hm,rfl,h6,?_,fun x hx=>?_⟩,?_⟩
  ·exact zc (za (by rw [<- hZf];exact (kf (L+1) (by omega) (by omega)).trans fZ1')) (i:=0) rfl
  ·exact zc (za (by rw [<- hZf];exact (kf (L+2) (by omega) (by omega)).trans fZ2)) (i:=0) rfl
  ·rw [<- hZf];refine OwnS.lower (h5.own.same fun a ha=>?_) hMU;have h:=zai h5.own ha;have n1:a.block≠D2:=fun e=>by rw [<- e] at hfD;exact hfD (h5.inF a ha)
   exact (kf _ (by omega) n1).trans (k2 _ h.2.1 (by omega) (by omega))
  ·have h:=h7 x hx;have st:∀ {α:Type} {E:Enc α} {T c:Nat} {r:OA} {ll:List α},RowIn E T W.heap.size F Y r c ll->OwnS E T w.heap.size Zf r c ll:=fun {α E T c r ll} hh=>by
    refine OwnS.lower (hh.own.same fun a ha=>?_) hwW.size;have h:=zai hh.own ha;have n1:a.block≠D2:=fun e=>by rw [<- e] at hfD;exact hfD (hh.inF a ha)
    exact (kf _ (by omega) n1).trans (k2 _ h.2.1 (by omega) (by omega))
   rw [<- hZf];exact⟨st h.1,st h.2.1,st h.2.2.1,st h.2.2.2⟩
  ·have hwY:Bw w Y:=hwW.trans (h8.mono hMU);have b1:=(hwY.trans (zh gZ1 hwY.size (by omega))).trans (zh gZ2 (by rw [sZ1];exact hwY.size) (by omega));exact qO (qO b1 (by omega) _) (by omega) _
 ·rintro D ex pre F Y hD hfD hpre h;exact h.elim
end
section
variable {l:List InsD} {dom:List UInt8} {q p:OA} {cap cd:Nat} {w:Wd}
theorem zmh (hl:SlR zH w q l) (hp:SlR zF w p dom) (hok:qc l 6=true) (hqb:l≠[]->∀ a,q=some a->a.block<w.heap.size) (hpb:∀ a,p=some a->a.block<w.heap.size) (hdl:dom.length<=1000) :
  Calls PG 43 #[.slice q l.length cap,.slice p dom.length cd] w fun e w'=>((∃ (p':OA) (c':Nat),(qs l dom).length<=4096/\e = .returned (.tuple #[.slice p' (zac (qs l dom)).length c',.bool true])/\OwnS zF 5 w.heap.size w' p' c' (zac (qs l dom)))\/(4096<(qs l dom).length/\e = .returned (.tuple #[.slice none 0 0,.bool false])))/\Bw w w':=by
 have ht:=zeH hok;have h12:l.length<=12:=ht.1;have hR:∀ R∈qs l dom,R.many<=24:=fun R h=>(zfJ ht dom R h).1;refine jf 55 [.slice q l.length cap,.slice p dom.length cd] (.c .p (.c .p (.c .p (.c .p (.s .p (.c .p .p)))))) Tryz.func43 ?_;obtain⟨L,hL⟩:=nm (w.heap.size);refine⟨Unit,fun _=>⟨[(0,.slice q l.length cap),(1,.slice p dom.length cd),(4,AtR L),(5,AtR (L+1))],[]⟩,fun _ X=>X.heap[L]?=some (.cells #[.slice none 0 0] 23 (0,0))/\X.heap[L+1]?=some (.cells #[.bool false] 4 (0,0))/\X.heap.size=L+2/\Bw w X,?_,?_⟩
 ·have s1:=wz w (.cells #[.slice none 0 0] 23);have h2:=zz (w.alloc (.cells #[.slice none 0 0] 23)) (.cells #[.bool false] 4);have s2:=wz (w.alloc (.cells #[.slice none 0 0] 23)) (.cells #[.bool false] 4);rw [s1] at h2 s2;refine⟨(),⟨.cons rfl (.cons rfl (.cons (by rw [hL];rfl) (.cons (by rw [hL,<- s1];rfl) .nil))),rfl⟩,?_,?_,?_,?_⟩
  ·rw [hL];exact qH _ (zz w _)
  ·rw [hL];exact h2
  ·rw [hL];exact s2
  ·exact ((zba w _)).alloc (by simp) _
 rintro _ X ⟨f0,f1,sX,hbX⟩;refine⟨Unit,fun _=>⟨[(0,.slice q l.length cap),(1,.slice p dom.length cd),(4,AtR L),(5,AtR (L+1)),(6,AtR (L+2))],[]⟩,fun _ Y=>Y.heap[L+2]?=some (.cells (wrC fun _=>false).toArray 150 (0,0))/\Y.heap.size=L+3/\Bw X Y,?_,?_⟩
 ·refine⟨(),⟨.cons rfl (.cons rfl (.cons rfl (.cons rfl (.cons (by rw [<- sX];rfl) .nil)))),rfl⟩,?_,?_,?_⟩
  ·rw [<- sX,<- zsv];exact zz X _
  ·have:=wz X (.cells (List.replicate 256 (Value.bool false)).toArray 150);rw [sX] at this;exact this
  ·exact (zba X _)
 rintro _ Y ⟨f2,sY,hbY⟩;refine⟨Unit,fun _=>⟨[(0,.slice q l.length cap),(1,.slice p dom.length cd),(4,AtR L),(5,AtR (L+1)),(6,AtR (L+2)),(7,AtR (L+3))],[]⟩,fun _ Z=>Z.heap[L+3]?=some (.cells [i64 (0:Nat)].toArray 3 (0,0))/\Z.heap.size=L+4/\Bw Y Z,?_,?_⟩
 ·refine zn (X:=Y) (v:=i64 0) k3 rfl rfl rfl fun Z hbZ fZ sZ=>?_;rw [sY] at fZ sZ;exact⟨(),⟨.cons rfl (.cons rfl (.cons rfl (.cons rfl (.cons rfl (.cons (by rw [<- sY];rfl) .nil))))),rfl⟩,fZ,sZ,hbZ⟩
 rintro _ V ⟨f3,sV,hbV⟩;have hXV:Bw X V:=zst hbY hbV;have hwV:=zst hbX hXV;have f0:=zb hXV f0;have f1:=zb hXV f1;have f2:=zb hbV f2;clear hbX hbY hbV hXV;obtain⟨xs,hxs⟩:=nm (qs l dom);rw [<- hxs] at hR ⊢;refine⟨Nat,fun D1=>⟨[(4,AtR L),(5,AtR (L+1)),(6,AtR (L+2))],[{ target := .collected D1,args := #[] }]⟩,fun D1 U=>xs.length<=4096/\U.heap[L+2]?=some (.cells (wrC (wrL xs)).toArray 150 (0,0))/\U.heap[D1]?=some (.deferred (some []))/\L+2<D1/\Below (L+2) V U,?_,?_⟩
 ·refine cmo ziA ?_;rintro e W ⟨rfl,fi,fd,sW,hbW⟩;have hwW:=zst hwV hbW;have hI:=ziz (q:=q) (p:=p) (hl.below hwW) (hp.below hwW) fi fd (fun hne a ha=>by have:=hqb hne a ha;have:=hwW.size;omega) (fun a ha=>by have:=hpb a ha;have:=hwW.size;omega) ht hdl;rw [<- hxs] at hI;obtain⟨J,hJ⟩:∃ J:List RunD->Wd->Prop,J=fun pre Y=>W.heap.size<=Y.heap.size/\pre.length<=4096/\Y.heap[L+2]?=some (.cells (wrC (wrL pre)).toArray 150 (0,0))/\Y.heap[L+3]?=some (.cells [i64 pre.length].toArray 3 (0,0))/\Below (L+2) W Y:=⟨_,rfl⟩;obtain⟨F0,hF0⟩:∃ F0:Nat->Prop,F0=fun k=>k=L+2\/k=L+3\/k=L\/k=L+1:=⟨_,rfl⟩;have f0W:=zb hbW f0;have f1W:=zb hbW f1;refine zcK (za9 _) rfl (lb := #[AtR V.heap.size,AtR (V.heap.size+1)]) rfl rfl hI (UZ _) (fun k hk=>⟨?_,rfl⟩) (fun pre vs W ⟨R,b,_,h,_⟩=>by rw [h];rfl) (by decide)
   F0 (fun pre F Y=>F=F0/\J pre Y) (fun ex pre F Y=>F=F0/\W.heap.size<=Y.heap.size/\ex = .ret/\4096<xs.length/\Y.heap[L]?=some (.cells #[.slice none 0 0] 23 (0,0))/\Y.heap[L+1]?=some (.cells #[.bool false] 4 (0,0))/\Below L W Y) (fun k hk=>?_)
   (joG (F:=F0) (J:=J) (fun k h=>by rw [hF0] at h;omega) (fun s A h=>by rw [hJ] at h;exact h.1) (fun pre A B h hb=>by
    rw [hJ] at h ⊢;obtain⟨h1,h0,h2,h3,h4⟩:=h;exact⟨UP h1 hb.size,h0,jg hb (by omega) h2,jg hb (by omega) h3,h4.trans (hb.mono (by omega))⟩))
   (fun ex=>joG (F:=F0) (J:=fun (pre:List RunD) Y=>W.heap.size<=Y.heap.size/\ex = .ret/\4096<xs.length/\Y.heap[L]?=some (.cells #[.slice none 0 0] 23 (0,0))/\Y.heap[L+1]?=some (.cells #[.bool false] 4 (0,0))/\Below L W Y) (fun k h=>by rw [hF0] at h;omega) (fun s A h=>h.1) (fun pre A B ⟨h1,h2,h3,h4,h5,h6⟩ hb=>⟨UP h1 hb.size,h2,h3,jg hb (by omega) h4,jg hb (by omega) h5,h6.trans (hb.mono (by omega))⟩)) ⟨rfl,by rw [hJ];exact⟨UZ _,Gc _,zb hbW f2,zb hbW f3,Ge _ _⟩⟩ ?_ ?_ ?_
  ·rcases hk with ((rfl | rfl) | ⟨hne,a,ha,rfl⟩ | ⟨a,ha,rfl⟩) | h
   ·omega
   ·omega
   ·have:=hqb hne a ha;have:=hwW.size;omega
   ·have:=hpb a ha;have:=hwW.size;omega
   ·exact h.elim
  ·rw [hF0];rcases hk with (rfl | rfl) | ⟨hne,a,ha,rfl⟩ | ⟨a,ha,rfl⟩
   ·omega
   ·omega
   ·have:=hqb hne a ha;omega
   ·have:=hpb a ha;omega
  ·rintro yl pre x vs F Y hyl hpre hJ0 ⟨R,b,hlast,rfl,fR⟩ hfy ⟨lo,hlo⟩;have hxR:x=R:=by simpa using hlast
   subst hxR;refine⟨rfl,F,KeepsG.refl _ _,hJ0,?_⟩;rintro o Y2 hY2 ⟨rfl,hJ2⟩;rw [hJ] at hJ2;obtain⟨h1,h0,h2,h3,h4⟩:=hJ2;have hbl:b≠yl:=fun e=>by
    rw [e] at fR;rw [fR] at hlo
    cases hlo
   have fR2:jn Y2 b x:=by rw [hY2];exact (zg hbl).trans fR
   have r1:=hR x (hpre.subset (by simp));have hpl:pre.length<xs.length:=by
    obtain⟨t,ht⟩:=hpre;rw [<- ht];simp only [lap,Qw];omega
   refine⟨_,zc (za h3) (i:=0) rfl,?_⟩;refine biE (fun hct=>?_) fun hct=>?_
   ·have hct:(pre.length:Int)=4096:=dT hct;have g0:Y2.heap[L]?=some (.cells #[.slice none 0 0] 23 (0,0)):=(h4.block L (by omega)).trans f0W;have g1:Y2.heap[L+1]?=some (.cells #[.bool false] 4 (0,0)):=(h4.block (L+1) (by omega)).trans f1W;refine zj k23 g0 (o:=0) (v := .slice none 0 0) rfl rfl (by show 0<1;decide) rfl fun Z1 fZ1 gZ1 sZ1=>?_;have g1':=(gZ1.block (L+1) (hlt g1) (by simp)).trans g1;refine zj k4 g1' (o:=0) (v := .bool false) rfl rfl (by show 0<1;decide) rfl fun Z2 fZ2 gZ2 sZ2=>?_;refine⟨F,⟨rfl,by omega,rfl,by omega,(gZ2.block L (hlt fZ1) (by simp)).trans fZ1,fZ2,?_⟩,(KeepsG.grown (F:=F) gZ1 (by rw [hF0];exact .inr (.inr (.inl rfl)))).trans (KeepsG.grown (F:=F) gZ2 (by rw [hF0];exact .inr (.inr (.inr rfl))))⟩;exact ((h4.mono (by omega)).trans (zh gZ1 (by omega) (UZ _))).trans (zh gZ2 (by omega) (by omega))
   have hct:¬ (pre.length:Int)=4096:=dF hct;refine⟨_,zc (za h3) (i:=0) rfl,?_⟩;refine⟨((pre.length+1:Nat):Int),(ze (by omega)).trans (by omega),?_⟩;refine zj k3 h3 (o:=0) (v:=i64 (pre.length+1:Nat)) rfl rfl (by show 0<1;decide) rfl fun Z fZ gZ sZ=>?_;have fRZ:jn Z b x:=(gZ.block b (hlt fR2) (fun e=>by
    have e:b=L+3:=(by simpa using e);rw [e] at fR2;rw [fR2] at h3;simp at h3)).trans fR2
   have f2Z:=(gZ.block (L+2) (hlt h2) (by simp)).trans h2;have kZ:KeepsG F F Y2 Z:=KeepsG.grown gZ (by rw [hF0];exact .inr (.inl rfl));have bZ:Below (L+2) W Z:=h4.trans (zh gZ (by omega) (by omega));refine DrawE.ord [] [0,1,2,3,4,5,6,7,8,9] (by kernel_rfl) ?_;have hdZ:Bw Z Z.drew:=(Ge _ _).drew;refine⟨_,zc (za (hdr fRZ)) (i:=18) (zbp x),?_⟩;refine⟨x.many,rfl,r1,?_⟩;have ecut:qN (some ⟨b,0+19,none⟩) 24 0 7=some ⟨b,19,none⟩:=by rw [zbe,UU]
   refine⟨Nat,fun i=>⟨[(6,AtR (L+2)),(7,AtR (L+3)),(29,.slice (some ⟨b,19,none⟩) (x.many-0) (24-0)),(30,i64 (x.many:Nat)),(31,i64 (i:Nat))],[]⟩,
    fun i T=>i<=x.many/\T.heap[L+2]?=some (.cells (wrC fun v=>wrL pre v||wrE x i v).toArray 150 (0,0))/\jn T b x/\T.heap[L+3]?=some (.cells [i64 (pre.length+1:Nat)].toArray 3 (0,0))/\KeepsG F F Y2 T/\Below (L+2) W T,fun i=>x.many-i,0,
    ⟨.cons rfl (.cons rfl (.cons (by rw [<- ecut];rfl) (.cons rfl (.cons rfl .nil)))),rfl⟩,⟨Gc _,?_,hdr fRZ,hdr fZ,kZ.trans (KeepsG.below hdZ fun k h => .inl h),bZ.drew⟩,?_⟩
   ·have e:(fun v=>wrL pre v||wrE x 0 v)=wrL pre:=by
     funext v;show (wrL pre v||false)=_;rw [UA]
    rw [e];exact f2Z
   rintro i T ⟨hi,t2,tR,t3,kT,bT⟩;have hTs:=kT.size;refine biE (fun hc=>?_) fun hc=>?_
   ·have hc:(i:Int)<(x.many:Int):=dT hc;have him:i<x.many:=(by omega);refine⟨i,rfl,him,?_⟩;have hev:zw T ⟨b,19+i*7,none⟩ (evE.enc (x.ev i)):=by
     have:=zG (n:=i*7) (m:=7) (zln tR);rw [zox x.ev (show i<24 by omega)] at this;exact this
    refine⟨evE.enc (x.ev i),rfl,hev,hlt tR,?_⟩;refine zn (X:=T) (v := .agg (evE.enc (x.ev i)).toArray) k60 rfl rfl rfl fun T2 hb2 fT2 sT2=>?_;have k2:KeepsG F F Y2 T2:=kT.trans (KeepsG.below hb2 fun k h => .inl h);have b2:Below (L+2) W T2:=bT.trans (hb2.mono (by omega));have n1:=znh x i;refine⟨_,zc (za fT2) (i:=1) rfl,?_⟩;have u2:=zb hb2 t2;have uR:=zb hb2 tR;have u3:=zb hb2 t3;refine biE (fun hk=>?_) fun hk=>?_
    ·have hk:(x.ev i).k=2:=jh.1 (dT hk);refine⟨_,zc (za fT2) (i:=3) rfl,?_⟩;refine⟨((x.ev i).v).toNat,rfl,((x.ev i).v).toNat_lt,?_⟩;refine zj k4 u2 (o:=0+((x.ev i).v).toNat*1) (v := .bool true) rfl rfl (by rw [zlg];have:=((x.ev i).v).toNat_lt;omega) rfl fun T3 fT3 gT3 sT3=>?_;rw [UU,Ga,zph] at fT3;have k3:KeepsG F F Y2 T3:=k2.trans (KeepsG.grown gT3 (by rw [hF0];exact .inl rfl));have hT2s:=k2.size;refine nxI (by omega) ?_;refine⟨i+1,(cvE rfl rfl),⟨him,?_,(gT3.block b (hlt uR) (fun e=>by
      have e:b=L+2:=(by simpa using e);rw [e] at uR;rw [uR] at u2;simp at u2)).trans uR,(gT3.block (L+3) (hlt u3) (by simp)).trans u3,k3,b2.trans (zh gT3 (by omega) (UZ _))⟩,zdc (by omega)⟩
     have e:(fun v=>wrL pre v||wrE x (i+1) v)=fun v=>(wrL pre v||wrE x i v)||decide ((x.ev i).v=v):=by
      funext v;rw [n1,Uv hk,UB,Bool.or_assoc]
     rw [e];exact fT3
    ·have hk:¬ (x.ev i).k=2:=fun e=>(dF hk) (by rw [e];rfl);refine nxI (by omega) ?_;refine⟨i+1,(cvE rfl rfl),⟨him,?_,uR,u3,k2,b2⟩,zdc (by omega)⟩;have e:(fun v=>wrL pre v||wrE x (i+1) v)=fun v=>(wrL pre v||wrE x i v):=by
      funext v;rw [n1,Uk hk,Um,UA]
     rw [e];exact u2
   ·have hc:¬ (i:Int)<(x.many:Int):=dF hc;obtain rfl:i=x.many:=(by omega);refine⟨F,⟨rfl,?_⟩,kT⟩;rw [hJ];refine⟨by omega,by rw [lap];show pre.length+1<=4096;omega,?_,by rw [lap];exact t3,bT⟩;have e:wrL (pre++[x])=fun v=>wrL pre v||wrE x x.many v:=by
     funext v;exact znf pre x v
    rw [e];exact t2
  ·rintro D1 F Y hD hfD ⟨rfl,hj⟩ hdef;rw [hJ] at hj;obtain⟨h1,h0,h2,h3,h4⟩:=hj;exact⟨D1,(cvE rfl rfl),h0,h2,hdef,by omega,(hbW.mono (by omega)).trans h4⟩
  ·rintro D ex pre F Y hD hfD hpre ⟨rfl,h1,rfl,hlong,g0,g1,hbY⟩ hdef;refine⟨_,rfl,hdef,?_⟩;refine⟨.slice none 0 0,zc (za ((zg (by omega)).trans g0)) (i:=0) rfl,.bool false,zc (za ((zg (by omega)).trans g1)) (i:=0) rfl,.inr ⟨hlong,rfl⟩,?_⟩;have hwY:=hwW.trans (hbY.mono (by omega));exact qO hwY (by have:=hwV.size;omega) _
 clear f2 f3;rintro D1 U ⟨hm,f2,fD1,hLD,bU⟩;have f0:U.heap[L]?=some (.cells #[.slice none 0 0] 23 (0,0)):=(bU.block L (by omega)).trans f0;have f1:U.heap[L+1]?=some (.cells #[.bool false] 4 (0,0)):=(bU.block (L+1) (by omega)).trans f1;have hwU:Bw w U:=hwV.trans (bU.mono (by omega));have sU:=hlt f2;have sD:=hlt fD1;clear bU hwV;refine⟨List UInt8×OA×Nat,fun s=>⟨[(4,AtR L),(5,AtR (L+1)),(11,.slice s.2.1 s.1.length s.2.2)],[{ target := .collected D1,args := #[] }]⟩,fun s Z=>s.1=zac xs/\OwnS zF 5 U.heap.size Z s.2.1 s.2.2 s.1/\Bw U Z,?_,?_⟩
 ·refine⟨wrC (wrL xs),zlg _,za f2,hlt f2,?_⟩;refine⟨Nat×OA×Nat,fun s=>⟨[(4,AtR L),(5,AtR (L+1)),(11,.slice s.2.1 ((zP.take s.1).filter (wrL xs)).length s.2.2),(42,.agg (wrC (wrL xs)).toArray),(43,i64 (s.1:Nat))],[{ target := .collected D1,args := #[] }]⟩,
   fun s Z=>s.1<=256/\OwnS zF 5 U.heap.size Z s.2.1 s.2.2 ((zP.take s.1).filter (wrL xs))/\Bw U Z,fun s=>256-s.1,(0,none,0),
   (cvE rfl rfl),⟨Gc _,OwnS.nil,Ge _ _⟩,?_⟩
  rintro⟨k,r,c⟩ Z ⟨hk,ho,hbZ⟩;dsimp only at hk ho ⊢;have hZs:=hbZ.size;refine biE (fun hc=>?_) fun hc=>?_
  ·have hc:(k:Int)<256:=dT hc;have hk2:k<256:=by omega
   have tk:zP.take (k+1)=zP.take k++[UInt8.ofNat k]:=by
    obtain⟨hlb,hbk⟩:=zoR hk2;rw [tsg hlb,hbk]
   have fl:(zP.take (k+1)).filter (wrL xs)=(zP.take k).filter (wrL xs)++(if wrL xs (UInt8.ofNat k)=true then [UInt8.ofNat k] else []):=by
    rw [tk,Kz,zkM]
   have hfl:((zP.take k).filter (wrL xs)).length<=256:=by
    have h1:=JN (wrL xs) (zP.take k);rw [Qy] at h1;omega
   refine⟨k,rfl,hk2,?_⟩;refine j7 (by rw [Ga];exact zkh _ hk2) ?_;refine biE (fun hv=>?_) fun hv=>?_
   ·rw [Gs hv] at fl;refine⟨_,w8N k,?_⟩;refine⟨⟨by decide,by decide,rfl⟩,zF.enc (UInt8.ofNat k),rfl,?_⟩;have hba:Bw Z (Z.alloc (.cells (zF.enc (UInt8.ofNat k)).toArray 5)):=zba _ _;refine jx (E:=zF) (T:=5) (B:=U.heap.size) (l:=(zP.take k).filter (wrL xs)) (news:=[UInt8.ofNat k]) (cap:=c) (m:=1) Tryz.underlying23 k5 rfl rfl rfl (ho.below hba) rfl (qG zF (UInt8.ofNat k)) (by have:=hba.size;omega) (by omega) (by show (((zP.take k).filter (wrL xs)).length+1)*1<=_;omega) ?_;intro p2 c2 T oT gT hbT hat;refine nxI (by omega) ?_;refine⟨(k+1,p2,c2),⟨.cons rfl (.cons rfl (.cons (by rw [fl];rfl) (.cons rfl (.cons rfl .nil)))),rfl⟩,⟨hk2,by show OwnS zF _ _ _ _ _ ((zP.take (k+1)).filter (wrL xs));rw [fl];exact oT,(hbZ.trans (hba.mono hZs)).trans hbT⟩,zdc (by omega)⟩
   ·have hv:wrL xs (UInt8.ofNat k)=false:=hv;rw [hv,Gr Ky,QN] at fl;refine nxI (by omega) ?_;exact⟨(k+1,r,c),⟨.cons rfl (.cons rfl (.cons (by rw [fl];rfl) (.cons rfl (.cons rfl .nil)))),rfl⟩,⟨hk2,by show OwnS zF _ _ _ _ _ ((zP.take (k+1)).filter (wrL xs));rw [fl];exact ho,hbZ⟩,zdc (by omega)⟩
  ·have hc:¬ (k:Int)<256:=dF hc;obtain rfl:k=256:=by omega
   have e:(zP.take 256).filter (wrL xs)=zac xs:=by
    rw [zkf,JI (by unfold zP;rw [QR,KZ];exact UZ _)]
   rw [e] at ho;exact⟨(zac xs,r,c),⟨.cons rfl (.cons rfl (.cons (by rw [e];rfl) .nil)),rfl⟩,rfl,ho,hbZ⟩
 rintro⟨ys,r,c⟩ Z ⟨rfl,ho,hbZ⟩;dsimp only at ho ⊢;have hZs:=hbZ.size;have g0:=zb hbZ f0;have g1:=zb hbZ f1;have gD:=zb hbZ fD1;refine zj k23 g0 (o:=0) (v := .slice r (zac xs).length c) rfl rfl (by show 0<1;decide) rfl fun Z1 fZ1 gZ1 sZ1=>?_;have g1':=(gZ1.block (L+1) (hlt g1) (by simp)).trans g1;refine zj k4 g1' (o:=0) (v := .bool true) rfl rfl (by show 0<1;decide) rfl fun Z2 fZ2 gZ2 sZ2=>?_;have k2:∀ k,k<Z.heap.size->k≠L->k≠L+1->Z2.heap[k]?=Z.heap[k]?:=fun k hk n1 n2=>(gZ2.block k (by rw [sZ1];exact hk) (by simpa using n2)).trans (gZ1.block k hk (by simpa using n1));have fZ1':=(gZ2.block L (hlt fZ1) (by simp)).trans fZ1;refine⟨_,rfl,(k2 D1 (hlt gD) (by omega) (by omega)).trans gD,?_⟩;refine⟨.slice r (zac xs).length c,?_,.bool true,?_,.inl ⟨r,c,hm,rfl,?_⟩,?_⟩
 ·exact zc (za ((zg (by omega)).trans fZ1')) (i:=0) rfl
 ·exact zc (za ((zg (by omega)).trans fZ2)) (i:=0) rfl
 ·refine OwnS.lower (ho.same fun a ha=>?_) hwU.size;have h:=zai ho ha;exact (zg (by omega)).trans (k2 _ h.2.1 (by omega) (by omega))
 ·have hwZ:=zst hwU hbZ;exact qO ((hwZ.trans (zh gZ1 hwZ.size (by omega))).trans (zh gZ2 (by rw [sZ1];exact hwZ.size) (by omega))) (by omega) _
end
structure OkG (p:Prg):Prop where
 l1:1<=p.locs.length
 l6:p.locs.length<=6
 il:p.locs.length=p.init.length
 t1:1<=p.threads.length
 t4:p.threads.length<=4
 th:∀ l∈p.threads,qc l 6=true
 tl:∀ l∈p.threads,qc l p.locs.length=true
theorem OkG.i1 {p:Prg} (h:OkG p):1<=p.init.length:=by have:=h.l1;have:=h.il;omega
theorem OkG.i6 {p:Prg} (h:OkG p):p.init.length<=6:=by have:=h.l6;have:=h.il;omega
theorem zmQ {x:InsD} {k k' n:Nat} (hk:k<=k') (h:zg8 x k n=true):zg8 x k' n=true:=by
 unfold zg8 qJ at h ⊢;simp only [UD,List.all_nil,id_eq,Bool.and_true,bAT,dE,QK] at h ⊢;obtain⟨h1,h2,h3,h4,h5⟩:=h;exact⟨h1,h2,h3,h4.imp id (fun h=>nL h hk),h5⟩
theorem zh4 {l:List InsD} {k k':Nat} (hk:k<=k') (h:qc l k=true):qc l k'=true:=by
 unfold qc at h ⊢;rw [bAT,dE,Qn] at h ⊢;refine⟨h.1,fun i hi=>?_⟩;have:=h.2 i hi
 split at this
 ·exact zmQ hk this
 ·rfl
theorem zc7 {p:Prg} (h:zcz p=true):OkG p:=by
 unfold zcz at h;simp only [bAT] at h;obtain⟨_,h2,⟨h4a,h4b,h5⟩,h6,_,h8⟩:=h;unfold zdo at h2;simp only [bAT,dE] at h2 h4a h4b;have h7:=Qn.1 h6;exact⟨h2.1,h2.2.1,h2.2.2.1.symm,h4a,h4b,fun l hl=>zh4 h2.2.1 (h7 l hl),h7⟩
def zhd (threads:List (List InsD)):Nat->List UInt8->Option (List UInt8)
 | 0,_=>none
 | n+1,vals=>if 16<vals.length then none else if (threads.any fun l=>decide (4096<(qs l vals).length))=true then none else if (za6 threads vals).length=vals.length then some vals else zhd threads n (za6 threads vals)
def zc4 (p:Prg):Option (List UInt8):=zhd p.threads 18 (je p.init)
theorem zct (l:List UInt8):je (je l)=je l:=ziC (zes l)
theorem zhN {l:List UInt8} (h:1<=l.length):1<=(je l).length:=by
 cases l with
 | nil=>simp at h
 | cons x r=>exact List.length_pos_of_mem (ze2.2 (KD ..))
theorem ziR (rs:List RunD):(zac rs).length<=256:=by
 refine UP (JN ..) ?_;unfold zP;rw [QR,KZ];exact UZ _
theorem zlR {α β:Type} {g:α->List β} (hg:∀ a,(g a).length<=256):∀ l:List α,(l.flatMap g).length<=256*l.length
 | []=>UZ _
 | a::l=>by
  rw [KW,lap,Qw];have:=hg a;have:=zlR hg l;omega
theorem zoB {a b:List UInt8} (h:∀ x,x∈a->x∈b):(je a).length<=(je b).length:=by
 unfold je;rw [<- List.countP_eq_length_filter,<- List.countP_eq_length_filter];refine List.countP_mono_left fun x _ hx=>?_;obtain⟨y,hy,e⟩:=Qo.1 hx;exact Qo.2 ⟨y,h y hy,e⟩
theorem zhJ (ths:List (List InsD)) {vals:List UInt8} (h:je vals=vals):vals.length<=(za6 ths vals).length:=by
 unfold za6
 conv=>lhs;rw [<- h]
 exact zoB fun x hx=>JY _ hx
section
variable {B:Nat} {p:Prg} {pc:List Value} {w:Wd}
theorem zna (hB:B<=w.heap.size) (hP:PrgX B w pc p) (hG:GlobE w) (hok:zcz p=true) :
  Calls PG 22 #[.agg pc.toArray,i64 16] w fun e w'=>((∃ (V:List UInt8) (q:OA) (c:Nat),zc4 p=some V/\e = .returned (.tuple #[.slice q V.length c,i64 0])/\OwnS zF 5 w.heap.size w' q c V)\/(zc4 p=none/\e = .returned (.tuple #[.slice none 0 0,i64 5])))/\Bw w w':=by
 have hOP:=zc7 hok;have hi1:=hOP.i1;have hi6:=hOP.i6;refine jf 60 [.agg pc.toArray,i64 16] (.c .p (.s .p (.c .p .p))) Tryz.func22 ?_;obtain⟨L,hL⟩:=nm (w.heap.size);have hpc:=hP.v.size;have hthr:=hP.v.len.threads;refine⟨Unit,fun _=>⟨[(1,i64 16),(2,AtR L)],[]⟩,fun _ X=>X.heap[L]?=some (.cells pc.toArray 29 (0,0))/\Bw w X,⟨(),⟨.cons rfl (.cons (by rw [hL];rfl) .nil),rfl⟩,by rw [hL];exact zz w _,(zba w _)⟩,?_⟩;rintro _ X ⟨f0,hbX⟩;refine brF (brF ⟨pc,hpc,za f0,hlt f0,cmo (ziL (UP hB hbX.size) (hP.v.below (hbX.mono hB)) (hG.c.below hbX)) ?_⟩);rintro e Y ⟨m,rfl,hm,hbY⟩;have hm0:m=0:=hm.2 hok;subst hm0;refine brF ?_;have hwY:=zst hbX hbY;have f0:=zb hbY f0;obtain⟨_,⟨p3,c3,h3,xs,hxs,zdm,hxr⟩,⟨p2,c2,h2,hinit⟩⟩:=hP;refine⟨OA×Nat,fun s=>⟨[(1,i64 16),(2,AtR L),(6,.slice s.1 (je p.init).length s.2)],[]⟩,fun s Z=>OwnS zF 5 w.heap.size Z s.1 s.2 (je p.init)/\Z.heap[L]?=some (.cells pc.toArray 29 (0,0))/\Bw w Z,?_,?_⟩
 ·refine⟨_,zc (za f0) (i:=2) (by simpa using h2),cmo (zcV ((hinit.below (hwY.mono hB)).slr (UP hB hwY.size)) hi1 (by omega)) ?_⟩;rintro e Z ⟨⟨q,c,rfl,ho⟩,hbZ⟩;exact⟨(q,c),(cvE rfl rfl),OwnS.lower ho hwY.size,zb hbZ f0,(zst hwY hbZ)⟩
 rintro⟨q,c⟩ X ⟨ho,f0,hbX⟩;obtain⟨R,hR⟩:=nm (zc4 p);rw [<- hR];refine⟨List UInt8×OA×Nat,fun s=>⟨[(1,i64 16),(2,AtR L),(6,.slice s.2.1 s.1.length s.2.2)],[]⟩,
  fun s Z=>((1<=s.1.length/\je s.1=s.1)/\∃ n,18<=n+s.1.length/\zhd p.threads n s.1=R)/\OwnS zF 5 w.heap.size Z s.2.1 s.2.2 s.1/\Z.heap[L]?=some (.cells pc.toArray 29 (0,0))/\Bw w Z,fun s=>300-s.1.length,(je p.init,q,c),
  (cvE rfl rfl),⟨⟨⟨zhN hi1,zct _⟩,18,QC _ _,hR.symm⟩,ho,f0,hbX⟩,?_⟩
 rintro⟨vals,q,c⟩ X ⟨⟨⟨hv1,hvd⟩,n,hn,hQ⟩,ho,f0,hbX⟩;dsimp only at hv1 hvd hn hQ ho ⊢;have hv256:vals.length<=256:=by rw [<- hvd];exact zdg _
 refine biE (fun h16=>?_) fun h16=>?_
 ·have h16:(16:Int)<(vals.length:Int):=dT h16;have e:R=none:=by
   rw [<- hQ]
   cases n with
   | zero=>rfl
   | succ n=>exact Gs (by omega)
  exact⟨.inr ⟨e,rfl⟩,hbX⟩
 have h16:¬ (16:Int)<(vals.length:Int):=dF h16;obtain⟨k,rfl⟩:∃ k,n=k+1:=⟨n-1,by omega⟩;have hQ:(if 16<vals.length then none else if (p.threads.any fun l=>decide (4096<(qs l vals).length))=true then none else if (za6 p.threads vals).length=vals.length then some vals else zhd p.threads k (za6 p.threads vals))=R:=hQ;rw [Gr (by omega)] at hQ;have hq0:q=none->c=0:=fun e=>by
  rcases ho.inv with ⟨_,h,_⟩ | ⟨g,_,h,_⟩
  ·exact h
  ·rw [e] at h;cases h
 have hqb:∀ a,q=some a->a.block<X.heap.size:=fun a ha=>(zai ho ha).2.1;refine cmo (zkc ho.row (by omega) hq0) ?_;rintro e Y ⟨⟨q1,k1,rfl,o1⟩,hbY⟩;have hwY:=zst hbX hbY;have f0Y:=zb hbY f0;have hl3:xs.length=p.threads.length:=by rw [<- hxs,QR]
 refine⟨_,zc (za f0Y) (i:=3) (by simpa using h3),?_⟩;obtain⟨g,hg⟩:∃ g:List InsD->List UInt8,g=fun l=>zac (qs l vals):=⟨_,rfl⟩;have hnx:za6 p.threads vals=je (vals++p.threads.flatMap g):=by unfold za6;rw [hg]
 have hgl:∀ l,(g l).length<=256:=fun l=>by rw [hg];exact ziR _
 have hth4:=hOP.t4;refine⟨Nat×OA×Nat,fun s=>⟨[(1,i64 16),(2,AtR L),(6,.slice q vals.length c),(7,.slice s.2.1 (vals++(p.threads.take s.1).flatMap g).length s.2.2),(33,.slice p3 p.threads.length c3),(34,i64 p.threads.length),(35,i64 (s.1:Nat))],[]⟩,
  fun s Z=>(s.1<=p.threads.length/\∀ l∈p.threads.take s.1,(qs l vals).length<=4096)/\OwnS zF 5 X.heap.size Z s.2.1 s.2.2 (vals++(p.threads.take s.1).flatMap g)/\Bw X Z,fun s=>p.threads.length-s.1,(0,q1,k1),
  ⟨.cons rfl (.cons rfl (.cons rfl (.cons (by rw [Us,Qt,QN];rfl) (.cons rfl (.cons rfl (.cons rfl .nil)))))),rfl⟩,⟨⟨Gc _,fun l hl=>by cases hl⟩,by show OwnS zF _ _ _ _ _ (vals++(p.threads.take 0).flatMap g);rw [Us,Qt,QN];exact o1,hbY⟩,?_⟩
 rintro⟨m,q1,k1⟩ Y ⟨⟨hm,hsm⟩,o1,hbY⟩;dsimp only at hm hsm o1 ⊢;have hwY:=zst hbX hbY;have f0Y:=zb hbY f0;have hXY:=hbY.size;have lenTake:∀ j,(vals++(p.threads.take j).flatMap g).length<=1280:=fun j=>by
  have h1:=zlR hgl (p.threads.take j);rw [Qy] at h1;rw [lap];omega
 refine biE (fun hc=>?_) fun hc=>?_
 ·have hc:(m:Int)<(p.threads.length:Int):=dT hc;have hmt:m<p.threads.length:=by omega
  have hmx:m<xs.length:=by omega
  obtain⟨b3,o3,hp3,hb3,hat3⟩:=zd1 (zdm.below (hwY.mono hB)) hmx;have hB2:b3<Y.heap.size:=nL hb3 (UP hB hwY.size);have e3:some (Value.slice p3 p.threads.length c3)=some (Value.slice (some ⟨b3,o3,none⟩) p.threads.length c3):=by rw [hp3]
  subst hp3;refine⟨m,rfl,hmt,zg3 xs[m],by have:=zc (hat3 m hmx) (i:=0) (v:=zg3 xs[m]) rfl;exact this,?_⟩;obtain⟨hrm,hrb⟩:=hxr _ (gM hmx);have hxm:xs[m].1=p.threads[m]:=by
   have:=Gm (fun l=>l[m]?) hxs;simp only [KY,gE hmx,gE hmt,Uh,Qd] at this;exact this
  have hmem:=gM hmt;have hxl:xs[m].1.length=p.threads[m].length:=by rw [hxm]
  have hw:=zmh (w:=Y) (l:=p.threads[m]) (dom:=vals) (q:=xs[m].2.1) (p:=q) (cap:=xs[m].2.2) (cd:=c) (by rw [<- hxm];exact (hrm.below (hwY.mono hB)).slr (UP hB hwY.size)) (ho.row.below hbY) (hOP.th _ hmem) (fun hne a ha=>nL (hrb (by rw [hxm];exact hne) a ha) (UP hB hwY.size)) (fun a ha=>nL (hqb a ha) hXY) (by omega);rw [<- hxl] at hw;have eg:zac (qs p.threads[m] vals)=g p.threads[m]:=by rw [hg]
  rw [eg] at hw;refine cmo hw ?_;rintro e Z ⟨(⟨q2,k2,hs,rfl,o2⟩ | ⟨hs,rfl⟩),hbZ⟩
  case inr =>
   refine brT ?_;have e:R=none:=by
    rw [<- hQ];exact Gs (Qo.2 ⟨_,hmem,Uv hs⟩)
   exact⟨.inr ⟨e,rfl⟩,hbX.trans ((hbY.trans (hbZ.mono hXY)).mono hbX.size)⟩
  refine brF ?_;have tk:(p.threads.take (m+1)).flatMap g=(p.threads.take m).flatMap g++g p.threads[m]:=by
   rw [tsg hmt,Kk,KW,Qt,QN]
  have l1:=lenTake m;have l2:=lenTake (m+1);rw [tk,<- KT,lap] at l2;have hXZ:=hbY.trans (hbZ.mono hXY);have hsZ:=hbZ.size;refine zfN (E:=zF) (T:=5) (B:=X.heap.size) (l:=vals++(p.threads.take m).flatMap g) (news:=g p.threads[m]) (cap:=k1) (m:=(g p.threads[m]).length) Tryz.underlying23 k5 rfl rfl rfl (o1.below hbZ) rfl o2.row (fun e=>by
   rcases o2.inv with ⟨_,h,_⟩ | ⟨g',_,h,_⟩
   ·exact h
   ·rw [e] at h;cases h) (by omega) (by omega) (by show ((vals++(p.threads.take m).flatMap g).length+(g p.threads[m]).length)*1<=_;omega) ?_
  intro q4 k4 U oU gU hbU;rw [KT,<- tk] at oU ⊢;refine nxI (by omega) ⟨(m+1,q4,k4),(cvE rfl rfl),⟨⟨hmt,fun l hl=>?_⟩,oU,hXZ.trans hbU⟩,zdc (by omega)⟩;have hl:l∈p.threads.take (m+1):=hl;rw [tsg hmt] at hl;rcases QV.1 hl with hl | hl
  ·exact hsm l hl
  ·rw [KE.1 hl];exact hs
 ·have hc:¬ (m:Int)<(p.threads.length:Int):=dF hc;obtain rfl:m=p.threads.length:=by omega
  rw [QA] at o1 hsm ⊢;have l3:=lenTake p.threads.length;rw [QA] at l3;rw [Gr (fun h=>by
   obtain⟨l,hl,e⟩:=Qo.1 h;have:=hsm l hl;have:=dT e;omega)] at hQ
  refine cmo (zcV o1.row (by rw [lap];omega) (by omega)) ?_;rintro e Z ⟨⟨q2,k2,rfl,o2⟩,hbZ⟩;rw [<- hnx] at o2 ⊢;have hXZ:=hbY.trans (hbZ.mono hXY);have hwZ:=zst hbX hXZ;refine biE (fun he=>?_) fun he=>?_
  ·have he:(za6 p.threads vals).length=vals.length:=by
    have:=dT he;omega
   rw [Gs he] at hQ;exact⟨.inl ⟨vals,q,c,hQ.symm,rfl,ho.below hXZ⟩,hwZ⟩
  ·have he:¬ (za6 p.threads vals).length=vals.length:=fun e=>(dF he) (by rw [e]);rw [Gr he] at hQ;have hge:=zhJ p.threads hvd;have hle:(za6 p.threads vals).length<=256:=zdg _;exact⟨(za6 p.threads vals,q2,k2),(cvE rfl rfl),⟨⟨⟨by show 1<=(za6 p.threads vals).length;omega,zct _⟩,k,by show 18<=k+(za6 p.threads vals).length;omega,hQ⟩,OwnS.lower o2 hwY.size,zb hXZ f0,hwZ⟩,by show 300-(za6 p.threads vals).length<300-vals.length;omega⟩
end
abbrev zD (V:List UInt8) (l:List InsD):List PathD:=(qs l V).map jC
abbrev z6 (p:Prg) (V:List UInt8):List MixD:=zn8 p.init (p.threads.map (zD V))
def zcA (p:Prg) (V:List UInt8):Prop :=
 (∀ l∈p.threads,(qs l V).length<=4096)/\(∀ k,k<=p.threads.length->za5 ((p.threads.take k).map fun l=>(zD V l).length)<=4096) /\
  ∀ ds∈z8 ((p.threads.map (zD V)).map List.length),(zgq p.init (jd (p.threads.map (zD V)) ds)).isSome=true
section
variable {w:Wd} {bP cv B:Nat} {pc:List Value} {qv:OA} {V:List UInt8} {p:Prg}
theorem zn9 (fP:w.heap[bP]?=some (.cells pc.toArray 29 (0,0))) (hB:B<=w.heap.size) (hP:PrgX B w pc p) (hO:OkG p) (hG:GlobE w) (hV:SlR zF w qv V) (hv1:1<=V.length) (hVd:je V=V) (hpb:∀ l∈p.threads,∀ P∈zD V l,PathB p.init.length P) :
  Calls PG 24 #[At0 bP,.slice qv V.length cv] w fun e w'=>((zcA p V/\∃ (ms:List MixX) (q:OA) (c:Nat),e = .returned (.tuple #[.slice q ms.length c,.bool true])/\ms.map (·.m)=z6 p V/\OwnS zg5 87 w.heap.size w' q c ms/\∀ x∈ms,NInM w.heap.size (fun k=>w.heap.size<=k) w' x)\/(¬ zcA p V/\e = .returned (.tuple #[.slice none 0 0,.bool false])))/\Bw w w':=by
 have hil:=hO.il;have hi6:=hO.i6;have ht4:=hO.t4;have hv256:V.length<=256:=by rw [<- hVd];exact zdg V
 refine jf 89 [At0 bP,.slice qv V.length cv] (.c .p (.c .p (.s .p (.s .p (.c .p (.c .p (.s .p .p))))))) Tryz.func24 ?_;obtain⟨L,hL⟩:=nm (w.heap.size);have hbP:=hlt fP;refine⟨Unit,fun _=>⟨[(1,.slice qv V.length cv),(2,At0 L),(4,At0 (L+1)),(5,At0 (L+2))],[]⟩,fun _ X=>X.heap[L]?=some (.cells #[At0 bP] 84 (0,0))/\X.heap[L+1]?=some (.cells #[.slice none 0 0] 81 (0,0))/\X.heap[L+2]?=some (.cells #[.bool false] 4 (0,0))/\X.heap.size=L+3/\Bw w X,?_,?_⟩
 ·have s1:=wz w (.cells #[At0 bP] 84);have h2:=zz (w.alloc (.cells #[At0 bP] 84)) (.cells #[.slice none 0 0] 81);have s2:=wz (w.alloc (.cells #[At0 bP] 84)) (.cells #[.slice none 0 0] 81);have h3:=zz ((w.alloc (.cells #[At0 bP] 84)).alloc (.cells #[.slice none 0 0] 81)) (.cells #[.bool false] 4);have s3:=wz ((w.alloc (.cells #[At0 bP] 84)).alloc (.cells #[.slice none 0 0] 81)) (.cells #[.bool false] 4);rw [s1] at h2 s2;rw [s2] at h3 s3;refine⟨(),⟨.cons rfl (.cons (by rw [hL];rfl) (.cons (by rw [hL,<- s1];rfl) (.cons (by rw [hL,<- s2];rfl) .nil))),rfl⟩,?_,?_,?_,?_,?_⟩
  ·rw [hL];exact qH _ (qH _ (zz w _))
  ·rw [hL];exact qH _ h2
  ·rw [hL];exact h3
  ·rw [hL];exact s3
  ·exact (((zba w _)).alloc (by simp) _).alloc (by simp;omega) _
 rintro _ X ⟨f0,f1,f2,sX,hbX⟩;refine⟨Unit,fun _=>⟨[(1,.slice qv V.length cv),(2,At0 L),(4,At0 (L+1)),(5,At0 (L+2)),(6,At0 (L+3))],[]⟩,fun _ Y=>MxS w.heap.size Y L bP [] none 0 [] none 0/\Bw w Y,?_,?_⟩
 ·refine⟨(),⟨.cons rfl (.cons rfl (.cons rfl (.cons rfl (.cons (by rw [<- sX];rfl) .nil)))),rfl⟩,⟨qH _ f0,qH _ f1,qH _ f2,by rw [<- sX];exact zz X _,OwnS.nil,OwnS.nil,fun z hz=>(by cases hz),fun z hz=>(by cases hz)⟩,hbX.alloc hbX.size _⟩
 clear f0 f1 f2 sX hbX;rintro _ X ⟨hS,hbX⟩;have hP0:=hP;obtain⟨_,⟨p3,c3,h3,xs,hxs,zdm,hxr⟩,⟨p2,c2,h2,hinit⟩⟩:=hP;have hxl:xs.length=p.threads.length:=by rw [<- hxs,QR]
 refine⟨(List TpR×OA×Nat)×OA×Nat,fun s=>⟨[(2,At0 L),(4,At0 (L+1)),(5,At0 (L+2)),(6,At0 (L+3)),(7,.slice s.2.1 (p.threads.map fun l=>(zD V l).length).length s.2.2)],[]⟩,fun s Z=>((∀ l∈p.threads,(qs l V).length<=4096)/\∀ k,k<=p.threads.length->za5 ((p.threads.take k).map fun l=>(zD V l).length)<=4096)/\MxS w.heap.size Z L bP (p.threads.map fun l=>(zD V l).length) s.2.1 s.2.2 s.1.1 s.1.2.1 s.1.2.2/\s.1.1.map (fun z=>z.1.map (·.1))=p.threads.map (zD V)/\Bw w Z,?_,?_⟩
 ·refine⟨_,zc (za hS.f0) (i:=0) rfl,?_⟩;refine⟨_,zc (za (zb hbX fP)) (i:=3) (by simpa using h3),?_⟩;refine⟨Nat×(List TpR×OA×Nat)×OA×Nat,fun s=>⟨[(1,.slice qv V.length cv),(2,At0 L),(4,At0 (L+1)),(5,At0 (L+2)),(6,At0 (L+3)),(7,.slice s.2.2.1 ((p.threads.take s.1).map fun l=>(zD V l).length).length s.2.2.2),(8,i64 (za5 ((p.threads.take s.1).map fun l=>(zD V l).length):Nat)),(23,.slice p3 p.threads.length c3),(24,i64 p.threads.length),(25,i64 (s.1:Nat))],[]⟩,
   fun s Z=>(s.1<=p.threads.length/\(∀ l∈p.threads.take s.1,(qs l V).length<=4096)/\∀ k,k<=s.1->za5 ((p.threads.take k).map fun l=>(zD V l).length)<=4096)/\MxS w.heap.size Z L bP ((p.threads.take s.1).map fun l=>(zD V l).length) s.2.2.1 s.2.2.2 s.2.1.1 s.2.1.2.1 s.2.1.2.2/\s.2.1.1.map (fun z=>z.1.map (·.1))=(p.threads.take s.1).map (zD V)/\Bw w Z,fun s=>p.threads.length-s.1,(0,([],none,0),none,0),
   (cvE rfl rfl),⟨⟨Gc _,fun l hl=>Gt hl (by simp),fun k hk=>by rw [Nat.le_zero.1 hk];exact (by decide:(1:Nat)<=4096)⟩,hS,rfl,hbX⟩,?_⟩
  clear hS hbX;rintro⟨k,⟨ts,pT,cT⟩,ps,cs⟩ Z ⟨⟨hk,hle,hall⟩,hS,hz,hbZ⟩;dsimp only at hk hle hall hS hz ⊢;have hts:ts.length=k:=by
   have:=Gm List.length hz;rw [QR,QR,Qy] at this;omega
  refine biE (fun hc=>?_) fun hc=>?_
  ·have hc:(k:Int)<(p.threads.length:Int):=dT hc;have hkl:k<p.threads.length:=by omega
   have hkx:k<xs.length:=by omega
   have hZs:=hbZ.size;obtain⟨l,hlk⟩:∃ l,p.threads[k]=l:=⟨_,rfl⟩;have hlm:l∈p.threads:=by rw [<- hlk];exact gM hkl
   have hQ:=hO.th l hlm;obtain⟨b3,o3,hp3,hb3,hat3⟩:=zd1 (zdm.below (hbZ.mono hB)) hkx;have hB2:b3<Z.heap.size:=by omega
   have e3:some (Value.slice p3 p.threads.length c3)=some (Value.slice (some ⟨b3,o3,none⟩) p.threads.length c3):=by rw [hp3]
   subst hp3;refine⟨k,rfl,hkl,?_⟩;refine⟨zg3 xs[k],by have:=zc (hat3 k hkx) (i:=0) (v:=zg3 xs[k]) rfl;exact this,?_⟩;obtain⟨hrm,hrb⟩:=hxr _ (gM hkx);have hxm:xs[k].1=l:=by
    have:=Gm (fun l=>l[k]?) hxs;simp only [KY,gE hkx,gE hkl,Uh,Qd] at this;rw [this,hlk]
   have hpt:(p.threads.take (k+1))=p.threads.take k++[l]:=by rw [tsg hkl,hlk]
   refine cmo (zo6 (l:=xs[k].1) (vals:=V) ((hrm.below (hbZ.mono hB)).slr (by omega)) (hV.below hbZ) hv1 (by omega) (by rw [hxm];exact hQ) (hG.below hbZ) (fun hne a ha=>by have:=hrb hne a ha;omega)) ?_;rw [hVd,hxm];obtain⟨A,hA⟩:=nm (za5 ((p.threads.take k).map fun l=>(zD V l).length));have hpr0:=hall k (UZ _);rintro e Y ⟨(⟨rk,pk,ck,hmle,rfl,hrk,ork,onk⟩ | ⟨hlong,rfl⟩),hbY⟩
   case inr =>
    have hSY:=hS.below hbY;rw [<- hA] at hpr0 ⊢;refine⟨((A*0:Nat):Int),(ze (by omega)).trans (by omega),?_⟩;refine brT ?_;refine brT ?_;refine zj k81 hSY.f1 (o:=0) (v := .slice none 0 0) rfl rfl (by show 0<1;decide) rfl fun Z1 fZ1 gZ1 sZ1=>?_;refine zj k4 ((gZ1.block (L+2) (hlt hSY.f2) (by simp)).trans hSY.f2) (o:=0) (v := .bool false) rfl rfl (by show 0<1;decide) rfl fun Z2 fZ2 gZ2 sZ2=>?_;refine⟨.slice none 0 0,zc (za ((gZ2.block (L+1) (hlt fZ1) (by simp)).trans fZ1)) (i:=0) rfl,.bool false,zc (za fZ2) (i:=0) rfl,.inr ⟨fun h=>?_,rfl⟩,?_⟩
    ·have:=h.1 l hlm;omega
    ·have hwY:=hbZ.trans (hbY.mono hZs);exact (hwY.trans (zh gZ1 hwY.size (by omega))).trans (zh gZ2 (by rw [sZ1];exact hwY.size) (by omega))
   have hrk:rk.map (·.1)=zD V l:=hrk;have hrkl:rk.length=(zD V l).length:=by rw [<- hrk,QR]
   have hpl:(zD V l).length<=4096:=by rw [QR];exact hmle
   have hSY:=hS.below hbY;have hA2:za5 ((p.threads.take (k+1)).map fun l=>(zD V l).length)=A*rk.length:=by
    rw [hpt,QU];show za5 ((p.threads.take k).map (fun l=>(zD V l).length)++[(zD V l).length])=_;rw [zkz,<- hrkl,hA]
   rw [<- hA] at hpr0 ⊢;obtain⟨nz,hnz⟩:∃ nz:TpR,nz=(rk,pk,ck):=⟨_,rfl⟩;have hen:[Value.slice pk rk.length ck]=tpE.enc nz:=by rw [hnz];rfl
   have hAr:A*rk.length<=4096*4096:=Ut hpr0 (by omega);refine⟨((A*rk.length:Nat):Int),by rw [<- QL];exact ze (by omega),?_⟩;refine brF ?_;refine biE (fun hbig=>?_) fun hbig=>?_
   ·have hbig:(4096:Int)<((A*rk.length:Nat):Int):=dT hbig;refine zj k81 hSY.f1 (o:=0) (v := .slice none 0 0) rfl rfl (by show 0<1;decide) rfl fun Z1 fZ1 gZ1 sZ1=>?_;refine zj k4 ((gZ1.block (L+2) (hlt hSY.f2) (by simp)).trans hSY.f2) (o:=0) (v := .bool false) rfl rfl (by show 0<1;decide) rfl fun Z2 fZ2 gZ2 sZ2=>?_;refine⟨.slice none 0 0,zc (za ((gZ2.block (L+1) (hlt fZ1) (by simp)).trans fZ1)) (i:=0) rfl,.bool false,zc (za fZ2) (i:=0) rfl,.inr ⟨fun h=>?_,rfl⟩,?_⟩
    ·have:=h.2.1 (k+1) hkl;rw [hA2] at this;omega
    ·have hwY:=hbZ.trans (hbY.mono hZs);exact (hwY.trans (zh gZ1 hwY.size (by omega))).trans (zh gZ2 (by rw [sZ1];exact hwY.size) (by omega))
   have hbig:¬ (4096:Int)<((A*rk.length:Nat):Int):=dF hbig;have hpr:A*rk.length<=4096:=by omega
   refine⟨_,zc (za hSY.f3) (i:=0) rfl,?_⟩;refine⟨⟨by decide,by decide,rfl⟩,tpE.enc nz,by rw [<- hen];rfl,?_⟩;have hb1:Bw Y (Y.alloc (.cells (tpE.enc nz).toArray 78)):=zba _ _;have hS1:=hSY.below hb1;have ork1:=ork.below hb1;have onk1:=fun x hx=>(onk x hx).same (Z:=Y.alloc (.cells (tpE.enc nz).toArray 78)) fun {α E T c q l} _ ho=>ho.below hb1;unfold zec zau;show SatR _ _;refine zsN hS1.rk (qG tpE nz) (by have:=hb1.size;have:=hbY.size;omega) (by omega) fun p' c' U oU gU hat1=>?_;have f0U:=z9 hS1.f0 hS1.rk (by decide) gU;have f1U:=z9 hS1.f1 hS1.rk (by decide) gU;have f2U:=z9 hS1.f2 hS1.rk (by decide) gU;have f3U:=z9 hS1.f3 hS1.rk (by decide) gU;refine zj zsL f3U (o:=0) (v := .slice p' (ts++[nz]).length c') rfl rfl (by show 0<1;decide) rfl fun S fS gS sS=>?_;have hbZY:=hbZ.trans (hbY.mono hZs);have sY:=hbY.size;have sb1:=hb1.size;have hbU:Bw w U:=(hbZY.trans (hb1.mono (by omega))).trans (qS hS1.rk (by omega) (UZ _) gU);have hbS:Bw w S:=hbU.trans (zh gS hbU.size (by omega));have hSS:MxS w.heap.size S L bP ((p.threads.take k).map fun l=>(zD V l).length) ps cs (ts++[nz]) p' c':=by
    have kU:∀ {α:Type} {E:Enc α} {T cc:Nat} {r:OA} {ll:List α},T≠78->T≠118->OwnS E T w.heap.size (Y.alloc (.cells (tpE.enc nz).toArray 78)) r cc ll->OwnS E T w.heap.size S r cc ll:=fun {α E T cc r ll} h1 h2 h=>qg (jD h hS1.rk h1 gU) f3U h2 gS;have kB:∀ {b:Nat} {o:Obj},b≠L+3->U.heap[b]?=some o->S.heap[b]?=some o:=fun {b o} hb h=>(gS.block b (hlt h) (by simpa using hb)).trans h;have kP:∀ x:zc0,PthO w.heap.size (Y.alloc (.cells (tpE.enc nz).toArray 78)) x->PthO w.heap.size S x:=fun x hx=>hx.same fun {α E T c q l} ht ho=>kU (by rcases ht with rfl | rfl <;> decide) (by rcases ht with rfl | rfl <;> decide) ho;refine⟨kB (by omega) f0U,kB (by omega) f1U,kB (by omega) f2U,fS,kU (by decide) (by decide) hS1.own,qg oU f3U (by decide) gS,fun z hz=>?_,fun z hz=>?_⟩
    ·rcases QV.1 hz with hz | hz
     ·exact kU (by decide) (by decide) (hS1.n1 z hz)
     ·rw [KE.1 hz,hnz];exact kU (by decide) (by decide) (ork1.lower hZs)
    ·rcases QV.1 hz with hz | hz
     ·exact fun x hx=>kP x (hS1.n2 z hz x hx)
     ·rw [KE.1 hz,hnz];exact fun x hx=>kP x ((onk1 x hx).mono hZs)
   clear hS1 ork1 onk1 hSY hS oU gU hat1 f0U f1U f2U f3U fS gS;refine⟨⟨by decide,by decide,rfl⟩,zu.enc rk.length,rfl,?_⟩;have hb2:Bw S (S.alloc (.cells (zu.enc rk.length).toArray 3)):=zba _ _;have hS2:=hSS.below hb2;have sbS:=hbS.size;have sb2:=hb2.size;unfold zec zau;show SatR _ _;refine zo1 hS2.own (qG zu rk.length) (by omega) (by rw [QR,Qy];omega) fun p2' c2' V' oV gV hat2=>?_;rw [zaf] at gV;have hSV:=hS2.size oV gV;have hzz:((p.threads.take k).map fun l=>(zD V l).length)++[rk.length]=(p.threads.take (k+1)).map fun l=>(zD V l).length:=by
    rw [hpt,QU,hrkl];rfl
   rw [hzz] at hSV ⊢;refine nxI (by omega) ?_;refine⟨(k+1,(ts++[nz],p',c'),p2',c2'),⟨.cons rfl (.cons rfl (.cons rfl (.cons rfl (.cons rfl (.cons rfl (.cons (by show _=some (i64 (za5 ((p.threads.take (k+1)).map fun l=>(zD V l).length):Nat));rw [hA2];rfl) (.cons rfl (.cons rfl (.cons rfl .nil))))))))),rfl⟩,⟨⟨hkl,fun l' hl'=>?_,fun k' hk'=>?_⟩,hSV,?_,hbS.trans ((hb2.mono sbS).trans (qS hS2.own (by omega) (UZ _) gV))⟩,zdc (by omega)⟩
   ·have hl':l'∈p.threads.take (k+1):=hl';rw [hpt] at hl';rcases QV.1 hl' with h | h
    ·exact hle l' h
    ·rw [KE.1 h];exact hmle
   ·have hk':k'<=k+1:=hk';by_cases e:k'=k+1
    ·rw [e,hA2];exact hpr
    ·exact hall k' (by omega)
   rw [hpt,QU,QU,hz,hnz];show _++[rk.map (·.1)]=_++[zD V l];rw [hrk]
  ·have hc:¬ (k:Int)<(p.threads.length:Int):=dF hc;obtain rfl:k=p.threads.length:=by omega
   rw [QA] at hz hS hle ⊢;exact⟨((ts,pT,cT),ps,cs),(cvE rfl rfl),⟨hle,hall⟩,hS,hz,hbZ⟩
 rintro⟨⟨ts,pT,cT⟩,ps,cs⟩ X ⟨⟨hle,hall⟩,hS,hz,hbX⟩;dsimp only at hS hz ⊢;obtain⟨Q,hQ⟩:=nm (X.heap.size);refine⟨Unit,fun _=>⟨[(2,At0 L),(4,At0 (L+1)),(5,At0 (L+2)),(6,At0 (L+3)),(7,.slice ps (p.threads.map fun l=>(zD V l).length).length cs),(13,At0 Q)],[]⟩,fun _ Z=>MxS w.heap.size Z L bP (p.threads.map fun l=>(zD V l).length) ps cs ts pT cT/\Z.heap[Q]?=some (.cells #[.slice none 0 0] 81 (0,0))/\Z.heap.size=Q+1/\Bw w Z,?_,?_⟩
 ·refine⟨(),⟨.cons rfl (.cons rfl (.cons rfl (.cons rfl (.cons rfl (.cons (by rw [hQ];rfl) .nil))))),rfl⟩,hS.below ((zba X _)),by rw [hQ];exact zz X _,by rw [hQ];exact wz _ _,hbX.alloc hbX.size _⟩
 have hQw:w.heap.size+4<=Q:=by have:=hlt hS.f3;omega
 clear hS hbX hQ;clear X;rintro _ X ⟨hS,fQ,sX,hbX⟩;obtain⟨Ts,hTs⟩:=nm (p.threads.map (zD V));have hTl:Ts.length=p.threads.length:=by rw [hTs,QR]
 have htl:ts.length=p.threads.length:=by have:=Gm List.length hz;simpa using this
 have hsz:(p.threads.map fun l=>(zD V l).length)=Ts.map List.length:=by rw [hTs,UK];rfl
 rw [hsz] at hS ⊢;rw [<- hTs] at hz;have hsl1:(Ts.map List.length).length<=1000:=by rw [QR];omega
 have hsl2:∀ n∈Ts.map List.length,n<=1000000:=fun n hn=>by
  rw [hTs,UK] at hn;obtain⟨l,hl,rfl⟩:=UM.1 hn;have:=hle l hl;show ((qs l V).map jC).length<=_;rw [QR];omega
 have hmemT:∀ z∈ts,∀ x∈z.1,PathB p.init.length x.1:=fun z hz' x hx=>by
  have h1:z.1.map (·.1)∈Ts:=by rw [<- hz];exact UM.2 ⟨z,hz',rfl⟩
  rw [hTs] at h1;obtain⟨l,hl,he⟩:=UM.1 h1;exact hpb l hl x.1 (by rw [he];exact UM.2 ⟨x,hx,rfl⟩)
 refine cmo zn1 ?_;rintro e V1 ⟨rfl,fo,sV1,hbV1⟩;have hI:=zqy fo (hS.own.row.below hbV1) (fun a ha=>by have:=(zp hS.own ha).2.1;omega) hsl1 hsl2;have hS1:=hS.below hbV1;have hb1:Bw w V1:=zst hbX hbV1;have hG0:Gath zg5 87 81 Q V1.heap.size Q V1 (NInM w.heap.size) [] (fun k=>k=Q\/k=L+1\/k=L+2) V1 :=
  ⟨UZ _,.inl rfl,fun k hk=>by have:=hlt hS1.f3;omega,⟨none,0,zb hbV1 fQ,OwnS.nil,fun a h=>by cases h⟩,fun x hx=>(by cases hx),Ge _ _⟩
 obtain⟨f,hf⟩:∃ f:List Nat->Option MixD,f=fun ds=>zgq p.init (jd Ts ds):=⟨_,rfl⟩;have hmix:z6 p V=(z8 (Ts.map List.length)).filterMap f:=by rw [hf,hTs];rfl
 have hIter:=Gath.iter (σ:=List (List Nat)) (E:=zg5) (T:=87) (TS:=81) (B:=Q) (n0:=V1.heap.size) (L:=Q) (W:=V1) (NIn:=NInM w.heap.size) (f:=fun pre (ms:List MixX)=>ms.map (·.m)=pre.filterMap f/\ms.length<=pre.length/\∀ ds∈pre,(f ds).isSome=true) (zhB _) (by omega);have hOkI:∀ h:(∀ ds∈z8 (Ts.map List.length),(f ds).isSome=true),zcA p V:=fun h=>⟨hle,hall,by rw [hf,hTs] at h;exact h⟩;have hOkE:zcA p V->∀ ds∈z8 (Ts.map List.length),(f ds).isSome=true:=fun h=>by rw [hf,hTs];exact h.2.2
 have hQL:L+2<Q:=by omega
 have h1Q:=hS1.f1;have h2Q:=hS1.f2;refine zcK (za9 _) rfl (lb := #[At0 X.heap.size]) rfl rfl hI (UZ _) (fun k hk=>⟨?_,rfl⟩) (fun pre vs W ⟨l,q,_,h,_⟩=>by rw [h];rfl) (by decide)
  (fun k=>k=Q\/k=L+1\/k=L+2) (fun pre F Y=>(F (L+1)/\F (L+2))/\∃ ms,(ms.map (·.m)=pre.filterMap f/\ms.length<=pre.length/\∀ ds∈pre,(f ds).isSome=true)/\Gath zg5 87 81 Q V1.heap.size Q V1 (NInM w.heap.size) ms F Y)
  (fun ex pre F Y=>(∀ k,F k->k<Y.heap.size)/\V1.heap.size<=Y.heap.size/\ex = .ret/\¬ zcA p V/\Y.heap[L+1]?=some (.cells #[.slice none 0 0] 81 (0,0))/\Y.heap[L+2]?=some (.cells #[.bool false] 4 (0,0))/\Bw w Y) (fun k hk=>?_) ⟨fun s F A C ⟨h1,h2⟩ hs=>⟨h1,hIter.step s F A C h2 hs⟩,fun s F A k ⟨_,h2⟩ hk=>hIter.lt s F A k h2 hk⟩
  (fun ex=>⟨fun pre F A C ⟨g1,g2,g3,g4,g5,g6,g7⟩ hs=>⟨fun k hk=>nL (g1 k hk) hs.size,UP g2 hs.size,g3,g4,(hs.same _ (hlt g5) (.inl ⟨by omega,fun h=>h⟩)).trans g5,(hs.same _ (hlt g6) (.inl ⟨by omega,fun h=>h⟩)).trans g6,g7.trans ⟨hs.os,hs.tape,hs.output,hs.size,fun k hk=>hs.same k (by have:=g7.size;omega) (.inl ⟨by have:=hb1.size;omega,fun h=>h⟩)⟩⟩,fun pre F A k ⟨g1,_⟩ hk=>⟨g1 k hk,fun h=>h⟩⟩) ⟨⟨.inr (.inl rfl),.inr (.inr rfl)⟩,[],⟨rfl,Gc _,fun ds h=>by cases h⟩,hG0⟩ ?_ ?_ ?_
 ·rcases hk with (rfl | ⟨a,ha,rfl⟩) | h
  ·omega
  ·have:=(zp hS.own ha).2.1;omega
  ·exact h.elim
 ·rcases hk with rfl | ⟨a,ha,rfl⟩
  ·omega
  ·obtain⟨_,_,cur,hc⟩:=zp hS.own ha;rintro (e | e | e)
   ·rw [e,fQ] at hc;simp at hc
   ·rw [e,hS.f1] at hc;simp at hc
   ·rw [e,hS.f2] at hc;simp at hc
 ·rintro yl pre ds vs F Y hyl hpre hJ0 ⟨l,qd,hlast,rfl,hsl,hcel⟩ hfy ⟨lo,hlo⟩;have hdx:ds=l:=by simpa using hlast
  subst hdx;refine⟨rfl,F,KeepsG.refl _ _,hJ0,?_⟩;rintro O Y2 hY2 ⟨hFL,ms,⟨hms,hml,hsm⟩,hG2⟩;have hslY:SlR zu Y2 qd ds:=by
   rw [hY2];refine qV hsl fun a ha=>zg fun e=>?_;obtain⟨cur,hcur⟩:=hcel a ha;rw [e,hlo] at hcur
   cases hcur
  obtain⟨hdl,hdlt⟩:=zaV (hpre.subset (JP _ (KE.2 rfl)));have hdm:ds∈z8 (Ts.map List.length):=hpre.subset (JP _ (KE.2 rfl));rw [QR] at hdl;have hY2s:=hG2.size;have old:∀ {k:Nat} {ob:Obj},k<Q->V1.heap[k]?=some ob->Y2.heap[k]?=some ob:=fun {k ob} hk h=>(hG2.old.block k hk).trans h;have g0:=old (by omega) hS1.f0;have g3:=old (by omega) hS1.f3;have kR:∀ {α:Type} {E:Enc α} {T cc:Nat} {r:OA} {ll:List α},T≠81->OwnS E T w.heap.size X r cc ll->OwnS E T w.heap.size Y2 r cc ll:=fun {α E T cc r ll} hT h=>h.same fun a ha=>by
   have hq:a.block≠Q:=fun e=>by
    obtain⟨_,_,cur,hc⟩:=zp h ha;rw [e,fQ] at hc;simp at hc;exact hT hc.2.symm
   have:=(zp h ha).2.1;exact (hG2.old.block _ (by omega)).trans (hbV1.block _ this)
  have rkY:=kR (by decide) hS.rk;have n1Y:=fun z hz=>kR (by decide) (hS.n1 z hz);have n2Y:∀ z∈ts,∀ x∈z.1,PthO w.heap.size Y2 x:=fun z hz x hx=>(hS.n2 z hz x hx).same fun {α E T c q l} ht ho=>kR (by rcases ht with rfl | rfl <;> decide) ho;have fPY:Y2.heap[bP]?=some (.cells pc.toArray 29 (0,0)):=old (by omega) ((hb1.block bP hbP).trans fP);have hbwY:Bw w Y2:=hb1.trans (hG2.old.mono (by omega));refine⟨Nat×List zc0×OA×Nat,fun s=>⟨[(2,At0 L),(4,At0 (L+1)),(5,At0 (L+2)),(6,At0 (L+3)),(13,At0 Q),(15,.slice s.2.2.1 s.2.1.length s.2.2.2),(58,.slice qd ds.length ds.length),(59,i64 ds.length),(60,i64 (s.1:Nat))],[]⟩,
   fun s Z=>s.1<=ds.length/\OwnS jG 73 Y2.heap.size Z s.2.2.1 s.2.2.2 s.2.1/\s.2.1.map (·.1)=jd (Ts.take s.1) (ds.take s.1)/\s.2.1.length=s.1/\(∀ x∈s.2.1,∃ z∈ts,x∈z.1)/\Bw Y2 Z,fun s=>ds.length-s.1,(0,[],none,0),
   (cvE rfl rfl),⟨Gc _,OwnS.nil,by simp [jd],rfl,fun x hx=>(by cases hx),Ge _ _⟩,?_⟩
  rintro⟨k,Cs,pC,cC⟩ Z ⟨hk,oC,hCs,hCl,hCm,hbZ⟩;dsimp only at hk oC hCs hCl hCm ⊢;have hZs:=hbZ.size;refine biE (fun hc=>?_) fun hc=>?_
  ·have hc:(k:Int)<(ds.length:Int):=dT hc;have hkl:k<ds.length:=by omega
   have hkt:k<ts.length:=by omega
   obtain⟨z,hzk⟩:∃ z,ts[k]=z:=⟨_,rfl⟩;have hzm:z∈ts:=by rw [<- hzk];exact gM hkt
   have hkT:k<Ts.length:=by omega
   have hzT:Ts[k]=z.1.map (·.1):=by
    have h1:Ts[k]?=some (z.1.map (·.1)):=(by rw [<- hz,KY,gE hkt,hzk];rfl);rw [gE hkT] at h1;exact Ui h1
   obtain⟨d,hd⟩:∃ d,ds[k]=d:=⟨_,rfl⟩;have hdz:d<z.1.length:=by
    have:=hdlt k (Ts[k].length) d (by rw [KY,gE hkT];rfl) (by rw [gE hkl,hd]);rw [hzT,QR] at this;exact this
   obtain⟨x,hx⟩:∃ x,z.1[d]=x:=⟨_,rfl⟩;have hxm:x∈z.1:=by rw [<- hx];exact gM hdz
   have hpick:jd (Ts.take (k+1)) (ds.take (k+1))=jd (Ts.take k) (ds.take k)++[x.1]:=by
    rw [tsg hkT,tsg hkl,hd,hzT,zf9 _ _ _ _ (by rw [Qy,Qy];omega),KY,gE hdz,hx];rfl
   obtain⟨bD,oD,hpD,hlD,hatD⟩:=(hslY.below hbZ).at hkl;obtain⟨bT,oT,hpT,hlT,hatT⟩:=(rkY.below hbZ).row.at hkt;obtain⟨bz,oz,hpz,hlz,hatz⟩:=((n1Y z hzm).below hbZ).row.at hdz;subst hpD;subst hpT;refine⟨k,rfl,hkl,?_⟩;refine⟨i64 d,by have:=zc (hatD k hkl) (i:=0) (v:=i64 d) (by rw [hd];rfl);exact this,?_⟩;refine⟨_,zc (za (zb hbZ g3)) (i:=0) rfl,?_⟩;refine⟨k,rfl,hkt,?_⟩;refine⟨.slice z.2.1 z.1.length z.2.2,by have:=zc (hatT k hkt) (i:=0) (v := .slice z.2.1 z.1.length z.2.2) (by rw [hzk];rfl);exact this,?_⟩;rw [hpz];refine⟨d,rfl,hdz,?_⟩;refine⟨jG.enc x,jG.len x,by rw [<- hx];exact hatz d hdz,hlz,?_⟩;refine⟨⟨by decide,by decide,rfl⟩,jG.enc x,zaA (jG.len x) rfl,?_⟩;have hb2:Bw Z (Z.alloc (.cells (jG.enc x).toArray 73)):=zba _ _;have sb2:=hb2.size;unfold zec zau;show SatR _ _;refine zsP (oC.below hb2) (qG jG x) (by omega) (by omega) fun p' c' U oU gU hat1=>?_;refine nxI (by omega) ?_;refine⟨(k+1,Cs++[x],p',c'),(cvE rfl rfl),⟨hkl,oU,by rw [QU,hCs,hpick];rfl,by rw [lap,hCl];rfl,fun y hy=>?_,hbZ.trans ((hb2.mono hZs).trans (qS (oC.below hb2) (by omega) (UZ _) gU))⟩,zdc (by omega)⟩;rcases QV.1 hy with hy | hy
   ·exact hCm y hy
   ·rw [KE.1 hy];exact⟨z,hzm,hxm⟩
  have hc:¬ (k:Int)<(ds.length:Int):=dF hc;obtain rfl:k=ds.length:=by omega
  rw [QA,JI (by omega)] at hCs;obtain⟨q1,y1,q2,y2,q3,y3,q4,y4,hvs,_⟩:=hP0.v.h;have hpc1:pc[1]?=some (.slice q1 p.init.length y1):=by rw [hvs,<- hil];rfl
  have hZw:w.heap.size<=Z.heap.size:=by have:=hbwY.size;omega
  refine⟨_,zc (za (zb hbZ g0)) (i:=0) rfl,?_⟩;refine cmo (zk7 (zb hbZ fPY) hpc1 h2 ((hinit.below (((zst hbwY hbZ)).mono hB)).slr (by omega)) hi6 oC.row (fun x hx=>?_) (fun x hx=>?_) (by omega)) ?_
  ·obtain⟨z,hz1,hx1⟩:=hCm x hx;obtain⟨o1,o2,o3,o4⟩:=n2Y z hz1 x hx1;refine⟨fun a ha=>?_,(o1.below hbZ).row,(o2.below hbZ).row,(o3.below hbZ).row,(o4.below hbZ).row⟩;rcases ha with ha | ha | ha
   ·exact (zp (o2.below hbZ) ha).2.1
   ·exact (zp (o3.below hbZ) ha).2.1
   ·exact (zp (o4.below hbZ) ha).2.1
  ·obtain⟨z,hz1,hx1⟩:=hCm x hx;exact hmemT z hz1 x hx1
  rintro e U ⟨⟨vs,hres⟩,hbU⟩;have hfd0:f ds=zgq p.init (Cs.map (·.1)):=by rw [hf,hCs]
  cases hmx:zgq p.init (Cs.map (·.1)) with
  | none =>
   rw [hmx] at hres hfd0;obtain⟨rfl,hvz⟩:=hres;have hvl:vs.length=336:=by rw [hvz];exact jB
   have hv1:vs.all Value.oneCell'=true:=by rw [hvz];kernel_rfl
   have hUs:=hbU.size;refine zn (X:=U) (v := .agg vs.toArray) k87 hvl jB hv1 fun V' hbV fV sV=>?_;refine brT ?_;have hbY2V:Bw Y2 V':=(hbZ.trans (hbU.mono hZs)).trans (hbV.mono (by omega));have hV2:=hbY2V.size;have g1:V'.heap[L+1]?=_:=zb hbY2V (old (by omega) hS1.f1);have g2:V'.heap[L+2]?=_:=zb hbY2V (old (by omega) hS1.f2);refine zj k81 g1 (o:=0) (v := .slice none 0 0) rfl rfl (by show 0<1;decide) rfl fun Z1 fZ1 gZ1 sZ1=>?_;refine zj k4 ((gZ1.block (L+2) (hlt g2) (by simp)).trans g2) (o:=0) (v := .bool false) rfl rfl (by show 0<1;decide) rfl fun Z2 fZ2 gZ2 sZ2=>?_;have hFlt:=hG2.lt;have b2:Bw w Z2:=(((zst hbwY hbY2V)).trans (zh gZ1 (by have:=hbwY.size;omega) (by omega))).trans (zh gZ2 (by have:=hbwY.size;omega) (by omega));refine⟨F,⟨fun k hk=>by have:=hFlt k hk;omega,by omega,rfl,fun h=>?_,(gZ2.block (L+1) (hlt fZ1) (by simp)).trans fZ1,fZ2,b2⟩,(((KeepsG.below hbY2V fun k h => .inl h):KeepsG F F Y2 V').trans (KeepsG.grown (F:=F) gZ1 hFL.1)).trans (KeepsG.grown (F:=F) gZ2 hFL.2)⟩;have:=hOkE h ds hdm;rw [hfd0] at this
   cases this
  | some mx =>
  rw [hmx] at hres;have hfd:f ds=some mx:=by rw [hfd0,hmx]
  obtain⟨rfl,x1,x2,x3,x4,y1,y2,y3,y4,xs',ys',hvs',m1,m2,m3,m4,m5,m6,m7,m8⟩:=hres;obtain⟨nx,hnx⟩:∃ nx:MixX,nx=⟨mx,x1,y1,x2,y2,x3,y3,x4,y4,xs',ys'⟩:=⟨_,rfl⟩;have hen:vs=zg5.enc nx:=by rw [hvs',hnx];rfl
  have hvl:vs.length=336:=by rw [hen];exact zg5.len nx
  have hv1:vs.all Value.oneCell'=true:=by rw [hen];exact zjw nx
  have hUs:=hbU.size;refine zn (X:=U) (v := .agg vs.toArray) k87 hvl jB hv1 fun V' hbV fV sV=>?_;have fV:V'.heap[U.heap.size]?=some (.cells vs.toArray 87 (0,0)):=fV;refine brF ?_;have hbY2V:Bw Y2 V':=(hbZ.trans (hbU.mono hZs)).trans (hbV.mono (by omega));obtain⟨pr,cr,h4,h5,h6⟩:=hG2.row;refine⟨_,zc (za (zb hbY2V h4)) (i:=0) rfl,?_⟩;refine⟨vs,hvl,za fV,hlt fV,?_⟩;refine⟨⟨by decide,by decide,jB⟩,zg5.enc nx,by rw [<- hen];exact zaA hvl jB,?_⟩;have hpl:pre.length<1000000000:=by
   obtain⟨t,ht⟩:=hpre;have h7:(pre++[ds]++t).length=zR (Ts.map List.length).reverse:=by
    rw [ht];unfold z8;rw [QR,KZ]
   have h8:zR (Ts.map List.length).reverse<=4096:=by
    have h9:=hall p.threads.length (UZ _);rw [QA,hsz] at h9;rw [zeP];exact h9
   simp only [lap,Qw] at h7;omega
  have hnw:∀ (G:Nat->Prop) (S:Wd),(∀ k,Y2.heap.size<=k->k<V'.heap.size->S.heap[k]?=V'.heap[k]?)->(∀ k,Y2.heap.size<=k->k<V'.heap.size->G k)->NInM w.heap.size G S nx:=by
   intro G S hs hg;have kp:∀ {α:Type} {E:Enc α} {T cc:Nat} {r:OA} {ll:List α},OwnS E T Z.heap.size U r cc ll->RowIn E T w.heap.size G S r cc ll:=fun {α E T cc r ll} h=>by
    have ol:∀ a,r=some a->Y2.heap.size<=a.block/\a.block<V'.heap.size:=fun a ha=>⟨by have:=(zp h ha).1;omega,by have:=(zp h ha).2.1;omega⟩;exact⟨OwnS.lower ((h.below hbV).same fun a ha=>hs _ (ol a ha).1 (ol a ha).2) hZw,fun a ha=>hg _ (ol a ha).1 (ol a ha).2⟩
   rw [hnx];exact⟨m3,m6,kp m1,kp m2,kp m4,fun y hy=>kp (m5 y hy),kp m7,fun y hy=>kp (m8 y hy)⟩
  obtain⟨v,Y5,hrun,S,hrun2,F',hG',hK',hFF'⟩:=hG2.step (P:=PG) (ty:=81) (cap1:=1) (zhB _) (by decide) Tryz.underlying81 k87 rfl rfl (by show _=336;exact jB) k81 rfl (by omega) (UZ _) hbY2V nx (by omega) (by show (ms.length+1)*2488<=_;omega) hnw pr cr h4;unfold zec zau;refine SatR.mk hrun ?_;refine SatR.mk hrun2 ?_;refine⟨F',⟨⟨hFF' _ hFL.1,hFF' _ hFL.2⟩,_,⟨?_,by rw [lap,lap];show ms.length+1<=pre.length+1;omega,fun d hd=>?_⟩,hG'⟩,hK'⟩
  case refine_2 =>
   rcases QV.1 hd with h | h
   ·exact hsm d h
   ·rw [KE.1 h,hfd];rfl
  rw [QU,List.filterMap_append,hms];show _++[nx.m]=_++List.filterMap f [ds];rw [show List.filterMap f [ds]=[mx] by rw [List.filterMap_cons,hfd];rfl,hnx]
 ·rintro D F Y hD hfD ⟨hFL,ms,⟨hms,hml,hsm⟩,hG⟩ hdef;obtain⟨pr,cr,h4,h5,h6⟩:=hG.row;have hYs:=hG.size;have old:∀ {k:Nat} {ob:Obj},k<Q->V1.heap[k]?=some ob->Y.heap[k]?=some ob:=fun {k ob} hk h=>(hG.old.block k hk).trans h;have g1:=old (by omega) hS1.f1;have g2:=old (by omega) hS1.f2;refine⟨_,zc (za h4) (i:=0) rfl,?_⟩;refine zj k81 g1 (o:=0) (v := .slice pr ms.length cr) rfl rfl (by show 0<1;decide) rfl fun Z1 fZ1 gZ1 sZ1=>?_;refine zj k4 ((gZ1.block (L+2) (hlt g2) (by simp)).trans g2) (o:=0) (v := .bool true) rfl rfl (by show 0<1;decide) rfl fun Z2 fZ2 gZ2 sZ2=>?_;have k2:∀ k,k<Y.heap.size->k≠L+1->k≠L+2->Z2.heap[k]?=Y.heap[k]?:=fun k hk n1 n2=>(gZ2.block k (by rw [sZ1];exact hk) (by simpa using n2)).trans (gZ1.block k hk (by simpa using n1));refine⟨_,rfl,(k2 D (hlt hdef) (by omega) (by omega)).trans hdef,?_⟩;have f2':=(gZ2.block (L+1) (hlt fZ1) (by simp)).trans fZ1;have kp:∀ a:Addr,a.block≠L+1->a.block≠L+2->F a.block->a.block<Y.heap.size->(Z2.putObj D (.deferred none)).heap[a.block]?=Y.heap[a.block]?:=fun a n1 n2 h2 h3=>(zg fun e=>by rw [<- e] at hfD;exact hfD h2).trans (k2 _ h3 n1 n2);have hwY:=hb1.trans (hG.old.mono (by omega));have b2:=(hwY.trans (zh gZ1 hwY.size (by omega))).trans (zh gZ2 (by have:=hwY.size;omega) (by omega));have ne:∀ {α:Type} {E:Enc α} {T B' cc:Nat} {r:OA} {ll:List α},T≠81->T≠4->OwnS E T B' Y r cc ll->∀ a,r=some a->a.block≠L+1/\a.block≠L+2:=fun {α E T B' cc r ll} t1 t2 h a ha=>by
   obtain⟨_,_,cur,hc⟩:=zp h ha;refine⟨fun e=>?_,fun e=>?_⟩
   ·rw [e,g1] at hc;simp at hc;exact t1 hc.2.symm
   ·rw [e,g2] at hc;simp at hc;exact t2 hc.2.symm
  refine⟨.slice pr ms.length cr,zc (za ((zg (by omega)).trans f2')) (i:=0) rfl,.bool true,zc (za ((zg (by omega)).trans fZ2)) (i:=0) rfl,.inl ⟨hOkI hsm,ms,pr,cr,rfl,by rw [hms,hmix],?_,fun x hx=>?_⟩,qO b2 (by omega) _⟩
  ·exact OwnS.lower (h5.same fun a ha=>kp a (ne (by decide) (by decide) h5 a ha).1 (ne (by decide) (by decide) h5 a ha).2 (h6 a ha) (zp h5 ha).2.1) (by omega)
  ·exact (hG.nest x hx).same fun {α E T c q l} t1 t2 t3 hr=>⟨hr.own.same fun a ha=>kp a (ne t2 t3 hr.own a ha).1 (ne t2 t3 hr.own a ha).2 (hr.inF a ha) (zp hr.own ha).2.1,fun a ha=>(zp hr.own ha).1⟩
 ·rintro D ex pre F Y hD hfD hpre ⟨g1,g2,rfl,g4,g5,g6,g7⟩ hdef;refine⟨_,rfl,hdef,?_⟩;refine⟨.slice none 0 0,zc (za ((zg (by have:=hlt hS1.f3;omega)).trans g5)) (i:=0) rfl,.bool false,zc (za ((zg (by have:=hlt hS1.f3;omega)).trans g6)) (i:=0) rfl,.inr ⟨g4,rfl⟩,qO g7 (by have:=hb1.size;omega) _⟩
end
def qA (m:MixD):List ExD:=if js m 1=0 then [] else zcX m
abbrev qa (p:Prg) (V:List UInt8):List ExD:=(z6 p V).flatMap qA
def zc2 (p:Prg) (V:List UInt8) (most:Nat):Prop:=zc4 p=some V/\zcA p V/\((z6 p V).map fun m=>js m 20001).sum<=most
structure MixC (m:MixD):Prop where
 rl:m.rs.length<=48
 wl:m.wr.length<=6
 rs:∀ r∈m.rs,r.1<48/\r.2.length<=1000/\∀ s∈r.2,s<48
 wr:∀ w∈m.wr,w.length<=48
structure CandB (p:Prg) (V:List UInt8):Prop where
 pb:∀ l∈p.threads,∀ P∈zD V l,PathB p.init.length P
 ml:zcA p V->(z6 p V).length<=5000
 mc:zcA p V->∀ m∈z6 p V,MixC m
 mb:zcA p V->((z6 p V).map fun m=>js m 20001).sum<=20000->∀ m∈z6 p V,js m 1≠0->MixB m
 len:zcA p V->((z6 p V).map fun m=>js m 20001).sum<=20000->(qa p V).length<=30000
theorem zjW {lim:Nat}:∀ (fs:List (List Nat)) (n:Nat),n<=lim->∀ k,zev lim fs n=some k->k<=lim
 | [],n,h,k,e=>by cases e;exact h
 | f::fs,n,h,k,e=>by
  unfold zev at e
  split at e
  ·cases e
  ·exact zjW fs _ (QF ..) k e
theorem zjX {lim len:Nat}:∀ (m k n:Nat),n<=lim->zfv lim len m k n<=lim
 | 0,k,n,h=>h
 | m+1,k,n,h=>by
  unfold zfv
  split
  ·exact zjX m _ _ (QF ..)
  ·exact h
theorem zjV {lim:Nat}:∀ (ws:List (List Nat)) (n:Nat),n<=lim->zfu lim ws n<=lim
 | [],n,h=>h
 | w::ws,n,h=>zjV ws _ (zjX _ _ _ h)
theorem zoL {lim:Nat} (m:MixD) (h:1<=lim):js m lim<=lim:=by
 unfold js
 split
 ·exact Gc _
 ·rename_i n e;exact zjV _ _ (zjW _ _ h _ e)
theorem ziV (ths:List (List InsD)):∀ (n:Nat) (vals V:List UInt8),1<=vals.length/\je vals=vals->zhd ths n vals=some V->1<=V.length/\je V=V
 | 0,vals,V,h,e=>by cases e
 | n+1,vals,V,h,e=>by
  unfold zhd at e
  split at e
  ·cases e
  ·split at e
   ·cases e
   ·split at e
    ·cases e;exact h
    ·refine ziV ths n _ V ⟨?_,zct _⟩ e;have:=zhJ ths h.2;show 1<=(za6 ths vals).length;omega
theorem zfR {p:Prg} {V:List UInt8} (hO:OkG p) (h:zc4 p=some V):1<=V.length/\je V=V :=
 ziV _ _ _ _ ⟨zhN hO.i1,zct _⟩ h
theorem znx {l:List Nat} (k:Nat):(l.take k).sum<=l.sum:=by
 have:l.sum=(l.take k).sum+(l.drop k).sum:=by rw [<- List.sum_append,JR]
 omega
theorem zqe {m:MixD} {xs ys:List zao} {lim:Nat} (h1:xs.map (·.1)=m.rs.map (·.2)) (h2:ys.map (·.1)=m.wr):zoM lim (xs.map (·.1)) (ys.map (·.1))=js m lim:=by
 rw [h1,h2];rfl
section
variable {w:Wd} {B most:Nat} {pc:List Value} {p:Prg}
theorem zg0 (hB:B<=w.heap.size) (hP:PrgX B w pc p) (hG:GlobE w) (hok:zcz p=true) (hm20:most<=20000) (hCB:∀ V,je V=V->CandB p V) :
  Calls PG 11 #[.agg pc.toArray,i64 most] w fun e w'=>((∃ V,zc2 p V most/\∃ (xs:List zcC) (q:OA) (c:Nat),e = .returned (.tuple #[.slice q xs.length c,i64 0])/\xs.map (·.1)=qa p V/\OwnS exE 55 w.heap.size w' q c xs/\∀ x∈xs,OwnS evE 60 w.heap.size w' x.2.1 x.2.2 x.1.ev)\/((∀ V,¬ zc2 p V most)/\e = .returned (.tuple #[.slice none 0 0,i64 5])))/\Bw w w':=by
 have hO:=zc7 hok;refine jf 74 [.agg pc.toArray,i64 most] (.c .p (.s .p (.s .p (.s .p (.c .p (.s .p (.s .p (.c .p (.c .p (.c .p .p)))))))))) Tryz.func11 ?_;obtain⟨L,hL⟩:=nm (w.heap.size);have hpc:=hP.v.size;refine⟨Unit,fun _=>⟨[(1,i64 most),(2,At0 L)],[]⟩,fun _ X=>X.heap[L]?=some (.cells pc.toArray 29 (0,0))/\L<X.heap.size/\Bw w X,⟨(),⟨.cons rfl (.cons (by rw [hL];rfl) .nil),rfl⟩,by rw [hL];exact zz w _,by rw [hL];exact hlt (zz w _),(zba w _)⟩,?_⟩;rintro _ X ⟨f0,sX,hbX⟩;refine brN (Uk (by omega)) (brN (Uk (by omega)) ⟨pc,hpc,za f0,hlt f0,cmo (ziL (UP hB hbX.size) (hP.v.below (hbX.mono hB)) (hG.c.below hbX)) ?_⟩);rintro e Y ⟨m,rfl,hm,hbY⟩;have hm0:m=0:=hm.2 hok;subst hm0;refine brF ?_;have hwY:=zst hbX hbY;have f0:=zb hbY f0;refine⟨pc,hpc,za f0,hlt f0,cmo (zna (UP hB hwY.size) (hP.below (hwY.mono hB)) (hG.below hwY) hok) ?_⟩;rintro e Z ⟨(⟨V,qv,cv,hval,rfl,oV⟩ | ⟨hval,rfl⟩),hbZ⟩
 case inr =>
  refine brT ⟨.inr ⟨fun V h=>?_,rfl⟩,(zst hwY hbZ)⟩;have:=h.1;rw [hval] at this
  cases this
 refine brF ?_;obtain⟨hv1,hVd⟩:=zfR hO hval;have hQ:=hCB V hVd;have uniq:∀ V',zc2 p V' most->V'=V:=fun V' h=>by
  have:=h.1;rw [hval] at this;exact (Ui this).symm
 have hwZ:=zst hwY hbZ;have f0:=zb hbZ f0;clear hbX hbY hwY;obtain⟨V0,hV0⟩:=nm (V);refine⟨Bool×List MixX×OA×Nat,fun s=>⟨[(1,i64 most),(8,.slice s.2.2.1 s.2.1.length s.2.2.2),(9,.bool s.1)],[]⟩,fun s U=>((s.1=true/\zcA p V/\s.2.1.map (·.m)=z6 p V/\OwnS zg5 87 w.heap.size U s.2.2.1 s.2.2.2 s.2.1/\∀ x∈s.2.1,NInM w.heap.size (fun k=>w.heap.size<=k) U x)\/(s.1=false/\¬ zcA p V))/\Bw w U,?_,?_⟩
 ·refine cmo (zn9 f0 (UP hB hwZ.size) (hP.below (hwZ.mono hB)) hO (hG.below hwZ) oV.row hv1 hVd hQ.pb) ?_;rintro e U ⟨(⟨hmo,ms,q,c,rfl,hms,oM,nM⟩ | ⟨hmo,rfl⟩),hbU⟩
  case inr=>exact⟨(false,[],none,0),(cvE rfl rfl),.inr ⟨rfl,hmo⟩,(zst hwZ hbU)⟩
  exact⟨(true,ms,q,c),(cvE rfl rfl),.inl ⟨rfl,hmo,hms,oM.lower hwZ.size,fun x hx=>(nM x hx).lower hwZ.size⟩,(zst hwZ hbU)⟩
 clear oV hbZ hwZ f0;rintro⟨ok,ms,q,c⟩ X ⟨hor,hbX⟩;dsimp only at hor ⊢;rcases hor with ⟨rfl,hmo,hms,oM,nM⟩ | ⟨rfl,hmo⟩
 case inr =>
  exact brT ⟨.inr ⟨fun V' h=>hmo (by rw [<- uniq V' h];exact h.2.1),rfl⟩,hbX⟩
 refine brF ?_;have hml:ms.length<=5000:=by have:=hQ.ml hmo;rw [<- hms,QR] at this;exact this
 have hmc:∀ x∈ms,MixC x.m:=fun x hx=>hQ.mc hmo x.m (by rw [<- hms];exact UM.2 ⟨x,hx,rfl⟩);have hsumE:((z6 p V).map fun m=>js m 20001).sum=(ms.map fun x=>js x.m 20001).sum:=by
  rw [<- hms,UK];rfl
 have htake:∀ k,((ms.take k).map fun x=>js x.m 20001).sum<=(ms.map fun x=>js x.m 20001).sum:=fun k=>by
  have:=znx (l:=ms.map fun x=>js x.m 20001) k;rw [<- List.map_take] at this;exact this
 obtain⟨tot,htot⟩:=nm ((ms.map fun x=>js x.m 20001).sum);have cnt:∀ {Z:Wd} {k lim:Nat} (hk:k<ms.length),OwnS zg5 87 w.heap.size Z q c ms->(∀ x∈ms,NInM w.heap.size (fun k=>w.heap.size<=k) Z x)->1<=lim->lim<=100000->∃ b o,q=some ⟨b,o,none⟩/\Calls PG 25 #[.pointer (some ⟨b,o+k*336,none⟩),i64 lim] Z fun e w'=>e = .returned (i64 (js ms[k].m lim:Nat))/\Z=w':=fun {Z k lim} hk oM nM h1 h2=>by
  obtain⟨b,o,hq,hb,hat⟩:=oM.row.at hk;have hx:=nM ms[k] (gM hk);have hb1:=hmc ms[k] (gM hk);have hxl:ms[k].xs.length=ms[k].m.rs.length:=by have:=Gm List.length hx.e2;simpa using this
  have hyl:ms[k].ys.length=ms[k].m.wr.length:=by have:=Gm List.length hx.e3;simpa using this
  refine⟨b,o,hq,?_⟩;have:=zp6 (lim:=lim) (r := .slice ms[k].p1 ms[k].m.rs.length ms[k].c1) (hat k hk) hx.r2.own.row hx.r3.own.row (fun y hy=>?_) (fun y hy=>?_) (by have:=hb1.rl;omega) (by have:=hb1.wl;omega) h1 h2
  ·rw [zqe hx.e2 hx.e3] at this;exact this
  ·have h3:y.1∈ms[k].m.rs.map (·.2):=by rw [<- hx.e2];exact UM.2 ⟨y,hy,rfl⟩
   obtain⟨r,hr,he⟩:=UM.1 h3;rw [<- he];exact (hb1.rs r hr).2.1
  ·have h3:y.1∈ms[k].m.wr:=by rw [<- hx.e3];exact UM.2 ⟨y,hy,rfl⟩
   have:=hb1.wr _ h3;omega
 refine⟨Unit,fun _=>⟨[(8,.slice q ms.length c),(10,i64 tot)],[]⟩,fun _ Z=>tot<=most/\X=Z,?_,?_⟩
 ·refine⟨Nat,fun k=>⟨[(1,i64 most),(8,.slice q ms.length c),(10,i64 (((ms.take k).map fun x=>js x.m 20001).sum:Nat)),(40,i64 ms.length),(41,i64 (k:Nat))],[]⟩,
   fun k Z=>(k<=ms.length/\((ms.take k).map fun x=>js x.m 20001).sum<=most)/\X=Z,fun k=>ms.length-k,0,(cvE rfl rfl),⟨⟨Gc _,Gc _⟩,rfl⟩,?_⟩
  rintro k _ ⟨⟨hk,hsk⟩,rfl⟩;dsimp only;refine biE (fun hc=>?_) fun hc=>?_
  ·have hc:(k:Int)<(ms.length:Int):=dT hc;have hkl:k<ms.length:=by omega
   obtain⟨b,o,hq,hcall⟩:=cnt (lim:=20001) hkl oM nM (by decide) (by decide);have htk:((ms.take (k+1)).map fun x=>js x.m 20001).sum=((ms.take k).map fun x=>js x.m 20001).sum+js ms[k].m 20001:=by
    rw [tsg hkl,QU,List.sum_append];show _+(js ms[k].m 20001+0)=_;rw [UO]
   have h1:js ms[k].m 20001<=20001:=zoL _ (by decide);subst hq;refine⟨k,rfl,hkl,cmo hcall ?_⟩;rintro e _ ⟨rfl,rfl⟩;refine⟨((((ms.take (k+1)).map fun x=>js x.m 20001).sum:Nat):Int),?_,?_⟩
   ·rw [htk,Int.natCast_add];exact ze (by omega)
   refine biE (fun hbig=>?_) fun hbig=>?_
   ·have hbig:(most:Int)<((((ms.take (k+1)).map fun x=>js x.m 20001).sum:Nat):Int):=dT hbig;refine⟨.inr ⟨fun V' h=>?_,rfl⟩,hbX⟩;have h2:=uniq V' h;subst h2;have h3:=h.2.2;rw [hsumE] at h3;have:=htake (k+1);omega
   have hbig:¬ (most:Int)<((((ms.take (k+1)).map fun x=>js x.m 20001).sum:Nat):Int):=dF hbig;exact nxI (by omega) ⟨k+1,(cvE rfl rfl),⟨⟨hkl,by omega⟩,rfl⟩,zdc (by omega)⟩
  ·have hc:¬ (k:Int)<(ms.length:Int):=dF hc;obtain rfl:k=ms.length:=by omega
   rw [QA,<- htot] at hsk ⊢;exact⟨(),(cvE rfl rfl),hsk,rfl⟩
 rintro _ _ ⟨htm,rfl⟩;have hCO:zc2 p V most:=⟨hval,hmo,by rw [hsumE,<- htot];exact htm⟩;have hsm:((z6 p V).map fun m=>js m 20001).sum<=20000:=UP hCO.2.2 hm20;have hXs:=hbX.size;refine⟨OA×Nat,fun s=>⟨[(8,.slice q ms.length c),(12,.slice s.1 0 s.2)],[]⟩,fun s Z=>OwnS exE 55 X.heap.size Z s.1 s.2 []/\Bw X Z,?_,?_⟩
 ·exact zcQ (E:=exE) Tryz.underlying30 k55 rfl (by show _=333;exact zW) rfl tot (by show 2416*tot<=_;omega) (by unfold maxLen;omega) fun Z oZ hbZ sZ=>⟨(some ⟨X.heap.size,0,none⟩,tot),(cvE rfl rfl),oZ,hbZ⟩
 rintro⟨p0,c0⟩ Y ⟨oY,hbY⟩;dsimp only at oY ⊢;refine⟨List zcC×OA×Nat,fun s=>⟨[(12,.slice s.2.1 s.1.length s.2.2)],[]⟩,fun s Z=>s.1.map (·.1)=qa p V/\OwnS exE 55 X.heap.size Z s.2.1 s.2.2 s.1/\(∀ x∈s.1,OwnS evE 60 X.heap.size Z x.2.1 x.2.2 x.1.ev)/\Bw X Z,?_,?_⟩
 ·refine⟨Nat×List zcC×OA×Nat,fun s=>⟨[(8,.slice q ms.length c),(12,.slice s.2.2.1 s.2.1.length s.2.2.2),(57,i64 ms.length),(58,i64 (s.1:Nat))],[]⟩,
   fun s Z=>s.1<=ms.length/\s.2.1.map (·.1)=(ms.take s.1).flatMap (fun x=>qA x.m)/\OwnS exE 55 X.heap.size Z s.2.2.1 s.2.2.2 s.2.1/\(∀ x∈s.2.1,OwnS evE 60 X.heap.size Z x.2.1 x.2.2 x.1.ev)/\Bw X Z,fun s=>ms.length-s.1,(0,[],p0,c0),
   (cvE rfl rfl),⟨Gc _,rfl,oY,fun x hx=>(by cases hx),hbY⟩,?_⟩
  clear oY hbY;rintro⟨k,outs,po,co⟩ Z ⟨hk,hou,oZ,nZ,hbZ⟩;dsimp only at hk hou oZ nZ ⊢;have hZs:=hbZ.size;have oMZ:OwnS zg5 87 w.heap.size Z q c ms:=oM.same fun a ha=>hbZ.block _ (zp oM ha).2.1;have nMZ:∀ x∈ms,NInM w.heap.size (fun k=>w.heap.size<=k) Z x:=fun x hx=>(nM x hx).same fun {α E T c q l} _ _ _ hr=>⟨hr.own.same fun a ha=>hbZ.block _ (zp hr.own ha).2.1,hr.inF⟩;refine biE (fun hc=>?_) fun hc=>?_
  ·have hc:(k:Int)<(ms.length:Int):=dT hc;have hkl:k<ms.length:=by omega
   obtain⟨b,o,hq,hcall⟩:=cnt (lim:=1) hkl oMZ nMZ (by decide) (by decide);obtain⟨x,hx⟩:∃ x,ms[k]=x:=⟨_,rfl⟩;have hxm:x∈ms:=by rw [<- hx];exact gM hkl
   have htk:(ms.take (k+1)).flatMap (fun x=>qA x.m)=(ms.take k).flatMap (fun x=>qA x.m)++qA x.m:=by
    rw [tsg hkl,Kk,hx,KW,Qt,QN]
   rw [hx] at hcall;have hat:zw Z ⟨b,o+k*336,none⟩ (zmN x):=by
    obtain⟨b',o',hq',_,hat⟩:=oMZ.row.at hkl;rw [hq] at hq';have:=hat k hkl;simp only [Qd,Ux,Gl] at hq';rw [<- hx,hq'.1,hq'.2];exact this
   have hbX2:b<X.heap.size:=(zp oM hq).2.1;subst hq;refine⟨k,rfl,hkl,cmo hcall ?_⟩;rintro e _ ⟨rfl,rfl⟩;refine biE (fun h=>?_) fun h=>?_
   ·have h:js x.m 1=0:=UC (dT h);have hc0:qA x.m=[]:=Gs h;rw [hc0,QN] at htk;exact nxI (by omega) ⟨(k+1,outs,po,co),(cvE rfl rfl),⟨hkl,by rw [hou,htk],oZ,nZ,hbZ⟩,zdc (by omega)⟩
   have h:js x.m 1≠0:=fun e=>(dF h) (by rw [e];rfl);have hc1:qA x.m=zcX x.m:=Gr h;rw [hc1] at htk;refine⟨k,rfl,hkl,cmo zqh ?_⟩;rintro e U ⟨rfl,fU,sU,hbU⟩;have hxM:=nMZ x hxm;have hxB:=hQ.mb hmo hsm x.m (by rw [<- hms];exact UM.2 ⟨x,hxm,rfl⟩) h;obtain⟨Rd,hRd⟩:∃ Rd:Nat->Prop,Rd=fun k=>k<X.heap.size\/k=Z.heap.size:=⟨_,rfl⟩;have ltX:∀ {α:Type} {E:Enc α} {T cc:Nat} {r:OA} {ll:List α},RowIn E T w.heap.size (fun k=>w.heap.size<=k) X r cc ll->∀ a,r=some a->Rd a.block:=fun {α E T cc r ll} h a ha=>by rw [hRd];exact .inl (zp h.own ha).2.1
   have hX:=nM x hxm;have hM:MixM Rd U b (o+k*336) x.m x.q x.c x.p1 x.p2 x.p3 x.c1 x.c2 x.c3 x.xs x.ys:=by
    have r:∀ {α:Type} {E:Enc α} {T cc:Nat} {r:OA} {ll:List α},RowIn E T w.heap.size (fun k=>w.heap.size<=k) Z r cc ll->SlR E U r ll:=fun {α E T cc r ll} h=>(h.own.below hbU).row;refine⟨zm hbU hat,r hxM.ev,fun e=>?_,r hxM.r1,hxM.e2,r hxM.r2,fun y hy=>r (hxM.n2 y hy),hxM.e3,r hxM.r3,fun y hy=>r (hxM.n3 y hy),by rw [hRd];exact .inl hbX2,ltX hX.ev,ltX hX.r1,ltX hX.r2,ltX hX.r3,fun y hy=>ltX (hX.n2 y hy),fun y hy=>ltX (hX.n3 y hy)⟩;rcases hxM.ev.own.inv with ⟨_,h,_⟩ | ⟨g,cur,h,_⟩
    ·exact h
    ·rw [e] at h;cases h
   have hRl:∀ k,Rd k->k<U.heap.size:=fun k hk=>by
    rw [hRd] at hk;omega
   have hTU:Tz64M U:=hG.t64.below (hbX.trans ((hbZ.trans (hbU.mono hZs)).mono hXs));have htz:=zat hG.t64;have hI:=zqi hM fU (by rw [hRd];exact .inr rfl) hRl hTU (by rw [hRd];left;omega) hxB hxB.ev;have hln:outs.length+(zcX x.m).length<=30000:=by
    have h2:=hQ.len hmo hsm;have h3:(qa p V)=ms.flatMap (fun x=>qA x.m):=by
     show (z6 p V).flatMap qA=_;rw [<- hms,Qs]
    rw [h3] at h2;have h4:ms.flatMap (fun x=>qA x.m)=(ms.take (k+1)).flatMap (fun x=>qA x.m)++(ms.drop (k+1)).flatMap (fun x=>qA x.m):=(by rw [<- Kk,JR]);rw [h4,htk,<- hou,lap,lap,QR] at h2;omega
   refine cmo (zkd (oZ.below hbU) (fun y hy=>(nZ y hy).below hbU) (by omega) hI (UZ _) (fun k hk=>⟨hRl k hk,rfl⟩) (fun k hk=>by rw [hRd] at hk;exact hk) fU (by omega) hln) ?_;rintro e T ⟨⟨new,pn,cn,rfl,zz,oT,nT⟩,hbT⟩;exact nxI (by omega) ⟨(k+1,outs++new,pn,cn),(cvE rfl rfl),⟨hkl,by rw [QU,hou,zz,htk],oT,nT,(hbZ.trans (hbU.mono hZs)).trans hbT⟩,zdc (by omega)⟩
  ·have hc:¬ (k:Int)<(ms.length:Int):=dF hc;obtain rfl:k=ms.length:=by omega
   rw [QA] at hou;refine⟨(outs,po,co),(cvE rfl rfl),?_,oZ,nZ,hbZ⟩;rw [hou];show ms.flatMap _=(z6 p V).flatMap qA;rw [<- hms,Qs]
 rintro⟨outs,po,co⟩ Z ⟨hou,oZ,nZ,hbZ⟩;exact⟨.inl ⟨V,hCO,outs,po,co,rfl,hou,oZ.lower hXs,fun x hx=>(nZ x hx).lower hXs⟩,hbX.trans (hbZ.mono hXs)⟩
end
def zbJ:List (List Nat)->Nat
 | []=>1
 | f::fs=>f.length*zbJ fs
theorem zfE {a b lim:Nat} (hb:1<=b):min (min a lim*b) lim=min (a*b) lim:=by
 by_cases ha:a<=lim
 ·rw [Ud ha]
 ·have e:min a lim=lim:=Nat.min_eq_right (by omega);have h2:lim<=lim*b:=Nat.le_mul_of_pos_right _ (by omega);have h3:lim<=a*b:=UP (by omega) (Nat.le_mul_of_pos_right a (by omega:0<b));rw [e,Nat.min_eq_right h2,Nat.min_eq_right h3]
theorem zeO:∀ fs:List (List Nat),(∀ f∈fs,f≠[])->1<=zbJ fs
 | [],_=>UZ _
 | f::fs,h=>Nat.mul_pos (List.length_pos_iff.2 (h f KD)) (zeO fs fun g hg=>h g (JZ _ hg))
theorem ziF {lim:Nat}:∀ (fs:List (List Nat)) (n:Nat),n<=lim->(∀ f∈fs,f≠[])->zev lim fs n=some (min (n*zbJ fs) lim)
 | [],n,h,_=>by
  show some n=some (min (n*1) lim);rw [Ga,Ud h]
 | f::fs,n,h,hf=>by
  have h1:f≠[]:=hf f KD;have hp:1<=f.length:=List.length_pos_iff.2 h1;unfold zev;rw [Gr h1,ziF fs _ (QF ..) fun g hg=>hf g (JZ _ hg)];congr 1;show min (min (n*f.length) lim*zbJ fs) lim=min (n*(f.length*zbJ fs)) lim;rw [<- UH,zfE (zeO fs fun g hg=>hf g (JZ _ hg))]
theorem zhQ {lim:Nat}:∀ (fs:List (List Nat)) (n:Nat),(∃ f∈fs,f=[])->zev lim fs n=none
 | [],n,⟨f,h,_⟩=>by cases h
 | f::fs,n,⟨g,hg,e⟩=>by
  unfold zev;by_cases h1:f=[]
  ·rw [Gs h1]
  ·rw [Gr h1];refine zhQ fs _ ⟨g,?_,e⟩;rcases UF.1 hg with h | h
   ·rw [h] at e;exact Gt e h1
   ·exact h
def up (len:Nat):Nat->Nat->Nat
 | 0,_=>1
 | m+1,k=>if k<len then k*up len m (k+1) else 1
theorem znj (len:Nat):∀ m k,1<=k->1<=up len m k
 | 0,_,_=>UZ _
 | m+1,k,h=>by
  unfold up
  split
  ·exact Nat.mul_pos h (znj len m (k+1) (by omega))
  ·exact UZ _
theorem zl6 {lim len:Nat}:∀ (m k n:Nat),1<=k->n<=lim->zfv lim len m k n=min (n*up len m k) lim
 | 0,k,n,_,h=>by
  show n=min (n*1) lim;rw [Ga,Ud h]
 | m+1,k,n,hk,h=>by
  unfold zfv up
  split
  ·rw [zl6 m (k+1) _ (by omega) (QF ..),zfE (znj len m (k+1) (by omega)),UH]
  ·rw [Ga,Ud h]
theorem znk:∀ (m k:Nat),1<=k->∀ len,len<=k+m->k<=len->fct (k-1)*up len m k=fct (len-1)
 | 0,k,h1,len,h2,h3=>by
  show fct (k-1)*1=_;rw [Ga,show len=k by omega]
 | m+1,k,h1,len,h2,h3=>by
  unfold up
  split
  ·rename_i hlt;rw [<- znk m (k+1) (by omega) len (by omega) (by omega),<- UH];congr 1;obtain⟨j,rfl⟩:∃ j,k=j+1:=⟨k-1,by omega⟩;show fct j*(j+1)=(j+1)*fct j;exact UQ _ _
  ·rw [Ga,show len=k by omega]
theorem zqN {len:Nat} (h:1<=len):up len len 2=fct (len-1):=by
 by_cases h2:2<=len
 ·have:=znk len 2 (by decide) len (by omega) h2;have h3:fct (2-1)=1:=rfl;rw [h3,Gb] at this;exact this
 ·have e:len=1:=by omega
  subst e;rfl
def zbI:List (List Nat)->Nat
 | []=>1
 | w::ws=>fct (w.length-1)*zbI ws
theorem zb4:∀ ws,1<=zbI ws
 | []=>UZ _
 | w::ws=>Nat.mul_pos (zdf _) (zb4 ws)
theorem zl5 {lim:Nat}:∀ (ws:List (List Nat)) (n:Nat),n<=lim->(∀ w∈ws,1<=w.length)->zfu lim ws n=min (n*zbI ws) lim
 | [],n,h,_=>by
  show n=min (n*1) lim;rw [Ga,Ud h]
 | w::ws,n,h,hw=>by
  unfold zfu;rw [zl6 _ _ _ (by decide) h,zqN (hw w KD),zl5 ws _ (QF ..) fun v hv=>hw v (JZ _ hv),zfE (zb4 ws)];show _=min (n*(fct (w.length-1)*zbI ws)) lim;rw [UH]
theorem zfL {m:MixD} {lim:Nat} (h1:1<=lim) (hw:∀ w∈m.wr,1<=w.length):js m lim=if ∀ r∈m.rs,r.2≠[] then min (zbJ (m.rs.map (·.2))*zbI m.wr) lim else 0:=by
 unfold js
 split
 ·rename_i e;rw [Gr];intro h;rw [ziF _ _ h1 fun f hf=>by
   obtain⟨r,hr,rfl⟩:=UM.1 hf;exact h r hr] at e
  cases e
 ·rename_i n e;by_cases h:∀ r∈m.rs,r.2≠[]
  ·rw [Gs h];rw [ziF _ _ h1 fun f hf=>by
    obtain⟨r,hr,rfl⟩:=UM.1 hf;exact h r hr] at e
   have e:=Ui e;rw [zl5 _ _ (by rw [<- e];exact QF ..) hw,<- e,Gb,zfE (zb4 _)]
  ·rw [zhQ] at e
   ·cases e
   ·refine Jq fun hn=>h fun r hr e2=>hn ⟨r.2,UM.2 ⟨r,hr,rfl⟩,e2⟩
theorem zfm {m:MixD} (hw:∀ w∈m.wr,1<=w.length):js m 1≠0↔∀ r∈m.rs,r.2≠[]:=by
 rw [zfL (by decide) hw];constructor
 ·intro h;refine Jq fun hn=>h (Gr hn)
 ·intro h;rw [Gs h];have h1:1<=zbJ (m.rs.map (·.2)):=zeO _ fun f hf=>by
   obtain⟨r,hr,rfl⟩:=UM.1 hf;exact h r hr
  have h2:1<=zbJ (m.rs.map (·.2))*zbI m.wr:=Nat.mul_pos h1 (zb4 _);rw [Nat.min_eq_right h2];decide
theorem zm4 (m:MixD):(zcX m).length=zR (zN m).reverse:=by
 unfold zcX z8;rw [QR,QR,KZ]
theorem zlw:∀ rs:List (Nat×List Nat),zR (rs.map fun r=>r.2.length)=zbJ (rs.map (·.2))
 | []=>rfl
 | r::rs=>by
  show r.2.length*zR (rs.map fun r=>r.2.length)=r.2.length*zbJ (rs.map (·.2));rw [zlw rs]
theorem zlv:∀ ws:List (List Nat),(∀ w∈ws,1<=w.length/\w.length<=48)->zR (ws.map fun w=>(zL w).length)<=zbI ws
 | [],_=>UZ _
 | w::ws,h=>by
  show (zL w).length*zR (ws.map fun w=>(zL w).length)<=fct (w.length-1)*zbI ws;have h1:=h w KD;exact Ut (zf6 h1.1 h1.2).1 (zlv ws fun v hv=>h v (JZ _ hv))
theorem zoO {m:MixD} (hw:∀ w∈m.wr,1<=w.length/\w.length<=48) (h:js m 20001<=20000):(qA m).length<=js m 20001:=by
 unfold qA
 split
 ·exact Gc _
 ·rename_i h1;have hs:=(zfm fun w hm=>(hw w hm).1).1 h1;have e:=zfL (m:=m) (lim:=20001) (by decide) fun w hm=>(hw w hm).1;rw [Gs hs] at e;have hp:zbJ (m.rs.map (·.2))*zbI m.wr=js m 20001:=by
   by_cases hb:zbJ (m.rs.map (·.2))*zbI m.wr<=20001
   ·rw [e,Ud hb]
   ·rw [Nat.min_eq_right (by omega)] at e;omega
  rw [zm4,<- hp];unfold zN;have e2:zR (m.rs.map (fun r=>r.2.length)++m.wr.map fun w=>(zL w).length).reverse=zR (m.rs.map (fun r=>r.2.length)++m.wr.map fun w=>(zL w).length):=by
   rw [zeP];unfold za5;rw [zeY,Gb]
  rw [e2,zb5,zlw];exact Nat.mul_le_mul_left _ (zlv _ hw)
theorem zkN {m:MixD} (hw:∀ w∈m.wr,1<=w.length) {lim:Nat} (hl:1<=lim) (h:js m lim<lim) (h1:js m 1≠0):∀ w∈m.wr,fct (w.length-1)<lim:=by
 have hs:=(zfm hw).1 h1;have e:=zfL (m:=m) hl hw;rw [Gs hs] at e;have hp:zbJ (m.rs.map (·.2))*zbI m.wr<lim:=by
  refine QD fun hb=>?_;rw [Nat.min_eq_right hb] at e;omega
 have h2:1<=zbJ (m.rs.map (·.2)):=by
  refine Nat.one_le_iff_ne_zero.2 fun h0=>?_;rw [h0,UV,Nat.zero_min] at e;have e1:=zfL (m:=m) (lim:=1) (by decide) hw;rw [Gs hs,h0,UV,Nat.zero_min] at e1;exact h1 e1
 have h3:zbI m.wr<lim:=KI (Nat.le_mul_of_pos_left _ (by omega)) hp;have:∀ ws:List (List Nat),∀ w∈ws,fct (w.length-1)<=zbI ws:=by
  intro ws
  induction ws with
  | nil=>intro w h;cases h
  | cons v ws ih =>
   intro w h;show _<=fct (v.length-1)*zbI ws;rcases UF.1 h with e | e
   ·rw [e];exact Nat.le_mul_of_pos_right _ (zb4 ws)
   ·exact UP (ih w e) (Nat.le_mul_of_pos_left _ (zdf _))
 exact fun w hm=>KI (this _ w hm) h3
def zbB:Nat->List PathD->List Ev
 | _,[]=>[]
 | k,P::Ps=>jK k P.ev++zbB (k+1) Ps
theorem zgW:∀ (Ps:List PathD) (k:Nat) (x:ExD),(asR k Ps x).ev=x.ev++zbB k Ps/\(asR k Ps x).po=x.po/\(asR k Ps x).rf=x.rf/\(asR k Ps x).co=x.co/\(asR k Ps x).mem=x.mem/\(asR k Ps x).dt.n=x.dt.n/\(asR k Ps x).ct.n=x.ct.n/\(asR k Ps x).rm.n=x.rm.n
 | [],k,x=>⟨(QN _).symm,rfl,rfl,rfl,rfl,rfl,rfl,rfl⟩
 | P::Ps,k,x=>by
  obtain⟨h1,h2⟩:=zgW Ps (k+1) (za3 x k P);refine⟨?_,h2⟩;show (asR (k+1) Ps (za3 x k P)).ev=x.ev++(jK k P.ev++zbB (k+1) Ps);rw [h1,<- KT];rfl
theorem zjJ:∀ (Ps:List PathD) (k n:Nat),Ps.foldl (fun n P=>n+P.ev.length) n=n+(zbB k Ps).length
 | [],k,n=>rfl
 | P::Ps,k,n=>by
  show Ps.foldl _ (n+P.ev.length)=n+(jK k P.ev++zbB (k+1) Ps).length;rw [zjJ Ps (k+1),lap];unfold jK;rw [QR,UG]
theorem zgM:∀ (Ps:List PathD) (k:Nat) (e:Ev),e∈zbB k Ps->∃ P∈Ps,∃ a∈P.ev,∃ t:Nat,k<=t/\t<k+Ps.length/\e={ a with th:=t }
 | [],k,e,h=>by cases h
 | P::Ps,k,e,h=>by
  rcases QV.1 h with h | h
  ·obtain⟨a,ha,rfl⟩:=UM.1 h;exact⟨P,KD,a,ha,k,UZ _,by rw [Qw];omega,rfl⟩
  ·obtain⟨Q,hQ,a,ha,t,h1,h2,h3⟩:=zgM Ps (k+1) e h;exact⟨Q,JZ _ hQ,a,ha,t,by omega,by rw [Qw];omega,h3⟩
section
variable {init:List UInt8} {Ps:List PathD}
theorem zbQ:(jU init Ps).ev=qB 0 init++zbB 0 Ps:=(zgW Ps 0 _).1
theorem zoW:(jU init Ps).ev.length=za4 init.length Ps:=by
 rw [zbQ,lap,z4];exact (zjJ Ps 0 init.length).symm
theorem zdk:(jU init Ps).rf=zcB (za4 init.length Ps)/\(jU init Ps).co=zcB (za4 init.length Ps)/\(jU init Ps).mem=(fun _=>0)/\(jU init Ps).dt.n=za4 init.length Ps/\(jU init Ps).ct.n=za4 init.length Ps/\(jU init Ps).rm.n=za4 init.length Ps:=by
 obtain⟨_,_,h1,h2,h3,h4,h5,h6⟩:=zgW Ps 0 { ex0 (za4 init.length Ps) with ev:=qB 0 init };exact⟨h1,h2,h3,h4,h5,h6⟩
theorem zm7 {i:Nat} (h:i<init.length):(jU init Ps).ev[i]?=some ⟨-1,2,UInt8.ofNat i,init[i],0,0,0⟩:=by
 rw [zbQ,Js (by rw [z4];exact h),zaO init 0 h,UU]
theorem zoV {e:Ev} (h:e∈(jU init Ps).ev):(∃ i,∃ h:i<init.length,e=⟨-1,2,UInt8.ofNat i,init[i],0,0,0⟩)\/∃ P∈Ps,∃ a∈P.ev,∃ t:Nat,t<Ps.length/\e={ a with th:=t }:=by
 rw [zbQ] at h;rcases QV.1 h with h | h
 ·obtain⟨i,hi,rfl⟩:=Km h;rw [z4] at hi;have:=zaO init 0 hi;rw [gE (by rw [z4];exact hi),UU] at this;exact .inl ⟨i,hi,Ui this⟩
 ·obtain⟨P,hP,a,ha,t,_,h2,h3⟩:=zgM Ps 0 e h;exact .inr ⟨P,hP,a,ha,t,by omega,h3⟩
theorem zey (hi6:init.length<=6) (hP:∀ P∈Ps,PathW init.length P) {e:Ev} (h:e∈(jU init Ps).ev) (hk:e.k=1\/e.k=2):e.l.toNat<init.length:=by
 rcases zoV h with ⟨i,hi,rfl⟩ | ⟨P,hPm,a,ha,t,_,rfl⟩
 ·show (UInt8.ofNat i).toNat<_;rw [KL];omega
 ·exact (hP P hPm).b.loc a ha hk
end
def wrF:Nat->List Ev->Nat->List Nat
 | _,[],_=>[]
 | i,e::es,l=>(if e.k=2/\e.l.toNat=l then [i] else [])++wrF (i+1) es l
theorem zh1:∀ (es:List Ev) (i:Nat) (W:List (List Nat)),(∀ e∈es,e.k=2->e.l.toNat<W.length)->(zg2 i es W).length=W.length/\∀ l,l<W.length->(zg2 i es W).getD l []=W.getD l []++wrF i es l
 | [],i,W,h=>⟨rfl,fun l hl=>(QN _).symm⟩
 | e::es,i,W,h=>by
  unfold zg2;by_cases hk:e.k=2
  ·rw [Gs hk];obtain⟨V,hV⟩:=nm (W.set e.l.toNat (W.getD e.l.toNat []++[i]));have hVl:V.length=W.length:=by rw [hV,QT]
   obtain⟨h1,h2⟩:=zh1 es (i+1) V fun d hd hd2=>by rw [hVl];exact h d (JZ _ hd) hd2
   rw [<- hV];refine⟨h1.trans hVl,fun l hl=>?_⟩;rw [h2 l (by omega)];show _=W.getD l []++((if e.k=2/\e.l.toNat=l then [i] else [])++wrF (i+1) es l);rw [<- KT];congr 1;rw [hV,gDe];by_cases hel:e.l.toNat=l
   ·rw [Gs ⟨hk,hel⟩,hel,JF hl];rfl
   ·rw [Gr fun h=>hel h.2,JW hel,QN,gDe]
  ·rw [Gr hk];obtain⟨h1,h2⟩:=zh1 es (i+1) W fun d hd=>h d (JZ _ hd);refine⟨h1,fun l hl=>?_⟩;rw [h2 l hl];show _=W.getD l []++((if e.k=2/\e.l.toNat=l then [i] else [])++wrF (i+1) es l);rw [Gr fun h=>hk h.1,QX]
theorem zng:∀ (es:List Ev) (i l:Nat),wrF i es l=((List.range es.length).filter fun j=>decide ((es.getD j ev0).k=2)&&decide ((es.getD j ev0).l.toNat=l)).map (· + i)
 | [],i,l=>rfl
 | e::es,i,l=>by
  unfold wrF;rw [zng es (i+1) l,Qw,List.range_succ_eq_map,Qr,List.filter_map];have e0:(e::es).getD 0 ev0=e:=rfl;rw [e0];have ee:∀ j,(e::es).getD (Nat.succ j) ev0=es.getD j ev0:=fun j=>rfl;have hm:∀ L:List Nat,(L.map Nat.succ).map (· + i)=L.map (· + (i+1)):=fun L=>by
   rw [UK];exact Ko fun j _=>by show j.succ+i=j+(i+1);omega
  by_cases hk:e.k=2/\e.l.toNat=l
  ·rw [Gs hk,Uv hk.1,Uv hk.2,Gs (show (true&&true)=true from rfl),UE,hm,UU];rfl
  ·rw [Gr hk];have:(decide (e.k=2)&&decide (e.l.toNat=l))=false:=by
    rw [Bool.and_eq_false_iff];by_cases h1:e.k=2
    ·exact .inr (Uk fun h=>hk ⟨h1,h⟩)
    ·exact .inl (Uk h1)
   rw [this,Gr Ky,hm];rfl
theorem zc5 (all:List Ev) (W:List (List Nat)):∀ (es:List Ev) (i:Nat) (r:Nat×List Nat),r∈zbs all W i es->∃ j e,es[j]?=some e/\e.k=1/\r=(i+j,(W.getD e.l.toNat []).filter fun w=>decide ((all.getD w ev0).v=e.v))
 | [],i,r,h=>by cases h
 | e::es,i,r,h=>by
  unfold zbs at h
  split at h
  ·rename_i hk;rcases UF.1 h with h | h
   ·exact⟨0,e,rfl,hk,by rw [h];rfl⟩
   ·obtain⟨j,d,h1,h2,h3⟩:=zc5 all W es (i+1) r h;exact⟨j+1,d,h1,h2,by rw [h3,show i+1+j=i+(j+1) by omega]⟩
  ·obtain⟨j,d,h1,h2,h3⟩:=zc5 all W es (i+1) r h;exact⟨j+1,d,h1,h2,by rw [h3,show i+1+j=i+(j+1) by omega]⟩
theorem zje (all:List Ev) (W:List (List Nat)):∀ (es:List Ev) (i:Nat),(zbs all W i es).length<=es.length
 | [],i=>UZ _
 | e::es,i=>by
  have:=zje all W es (i+1);unfold zbs
  split
  ·rw [Qw,Qw];omega
  ·rw [Qw];omega
structure ChoiceW (init:List UInt8) (Ps:List PathD) (m:MixD):Prop where
 i1:1<=init.length
 i6:init.length<=6
 p4:Ps.length<=4
 P:∀ P∈Ps,PathW init.length P
 n:za4 init.length Ps<=48
 m:m=jT (jU init Ps) init.length
section
variable {init:List UInt8} {Ps:List PathD} {m:MixD}
theorem ChoiceW.base (h:ChoiceW init Ps m):m.base=jU init Ps:=by rw [h.m];rfl
theorem ChoiceW.len (h:ChoiceW init Ps m):m.base.ev.length=za4 init.length Ps:=by rw [h.base,zoW]
theorem ChoiceW.wr (h:ChoiceW init Ps m):m.wr.length=init.length/\∀ l,l<init.length->m.wr.getD l []=qb m.base l:=by
 obtain⟨h1,h2⟩:=zh1 (jU init Ps).ev 0 (List.replicate init.length []) fun e he hk=>by
  rw [JO];exact zey h.i6 h.P he (.inr hk)
 rw [JO] at h1 h2;have e:m.wr=zg2 0 (jU init Ps).ev (List.replicate init.length []):=by rw [h.m];rfl
 rw [e];refine⟨h1,fun l hl=>?_⟩;rw [h2 l hl,zng,gDe,List.getElem?_replicate,Gs hl,h.base];show []++List.map (· + 0) _=_;rw [QX];show List.map (fun x=>x) _=_;rw [List.map_id'];rfl
theorem ChoiceW.wr_mem (h:ChoiceW init Ps m) {w:List Nat} (hw:w∈m.wr):∃ l,l<init.length/\w=qb m.base l/\m.wr[l]?=some w:=by
 obtain⟨h1,h2⟩:=h.wr;obtain⟨l,hl,rfl⟩:=Km hw;refine⟨l,by omega,?_,gE hl⟩;have:=h2 l (by omega);rw [gDe,gE hl] at this;exact this
theorem ChoiceW.ini (h:ChoiceW init Ps m) {i:Nat} (hi:i<init.length):evA m.base i=⟨-1,2,UInt8.ofNat i,init[i],0,0,0⟩:=by
 unfold evA;rw [h.base,gDe,zm7 hi];rfl
theorem zfw (x:ExD) (l:Nat):(qb x l).length<=x.ev.length:=by
 refine UP (JN ..) ?_;rw [KZ];exact UZ _
theorem zeD {x:ExD} {l a:Nat} (h:a∈qb x l):a<x.ev.length:=Ur.1 (QW.1 h).1
theorem ChoiceW.head (h:ChoiceW init Ps m) {l:Nat} (hl:l<init.length):1<=(qb m.base l).length/\(qb m.base l).headD 48=l:=by
 have h6:=h.i6;have hn:init.length<=m.base.ev.length:=by
  rw [h.len];exact zfU _ _
 have e:=zfk (p:=fun i=>decide ((evA m.base i).k=2)&&decide ((evA m.base i).l.toNat=l)) (n:=m.base.ev.length) (k:=l) (by omega) (fun i hi=>by
  rw [h.ini (by omega)];have:¬ (UInt8.ofNat i).toNat=l:=by rw [KL];omega
  rw [Uk this,Ul]) (by
  rw [h.ini hl];have:(UInt8.ofNat l).toNat=l:=by rw [KL];omega
  rw [Uv this];rfl)
 unfold qb;rw [e];exact⟨by simp,rfl⟩
theorem ChoiceW.rs (h:ChoiceW init Ps m) {r:Nat×List Nat} (hr:r∈m.rs):∃ e,m.base.ev[r.1]?=some e/\e.k=1/\r.2=(m.wr.getD e.l.toNat []).filter fun w=>decide ((m.base.ev.getD w ev0).v=e.v):=by
 rw [h.m] at hr ⊢;obtain⟨j,e,h1,h2,h3⟩:=zc5 _ _ _ _ _ hr;rw [UU] at h3;exact⟨e,by rw [h3];exact h1,h2,by rw [h3];rfl⟩
theorem ChoiceW.src (h:ChoiceW init Ps m) {r:Nat×List Nat} (hr:r∈m.rs):r.1<m.base.ev.length/\r.2.length<=48/\∀ s∈r.2,s<m.base.ev.length:=by
 have hn:=h.n;rw [<- h.len] at hn;obtain⟨e,h1,h2,h3⟩:=h.rs hr;have hlt:=(Jt.1 h1).1;have hel:e.l.toNat<init.length:=by
  have:e∈(jU init Ps).ev:=by rw [<- h.base];exact Ka h1
  exact zey h.i6 h.P this (.inl h2)
 rw [h.wr.2 _ hel] at h3;refine⟨hlt,?_,fun s hs=>?_⟩
 ·rw [h3];have h4:=zfw m.base e.l.toNat;have h5:=JN (fun w=>decide ((m.base.ev.getD w ev0).v=e.v)) (qb m.base e.l.toNat);omega
 ·rw [h3] at hs;exact zeD (QW.1 hs).1
theorem ChoiceW.c (h:ChoiceW init Ps m):MixC m:=by
 have hn:=h.n;rw [<- h.len] at hn;refine⟨?_,?_,fun r hr=>?_,fun w hw=>?_⟩
 ·have:m.rs.length<=m.base.ev.length:=by
   rw [h.m];exact zje _ _ _ _
  omega
 ·rw [h.wr.1];exact h.i6
 ·obtain⟨h1,h2,h3⟩:=h.src hr;exact⟨by omega,by omega,fun s hs=>by have:=h3 s hs;omega⟩
 ·obtain⟨l,hl,rfl,_⟩:=h.wr_mem hw;have:=zfw m.base l;omega
theorem ChoiceW.w1 (h:ChoiceW init Ps m) {w:List Nat} (hw:w∈m.wr):1<=w.length/\w.length<=48:=by
 refine⟨?_,h.c.wr w hw⟩;obtain⟨l,hl,rfl,_⟩:=h.wr_mem hw;exact (h.head hl).1
theorem ChoiceW.b (h:ChoiceW init Ps m):MixB m:=by
 have hn:=h.n;rw [<- h.len] at hn;obtain⟨b1,b2,b3,_⟩:=zdk (init:=init) (Ps:=Ps);have hc:=h.c;refine⟨hn,hc.rl,hc.wl,fun i _=>?_,fun i _=>?_,hc.rs,fun w hw=>?_⟩
 ·rw [h.base,b1];show 0<2^64;decide
 ·rw [h.base,b2];show 0<2^64;decide
 ·obtain⟨h1,h2⟩:=h.w1 hw;refine⟨h2,(zf6 h1 h2).2,fun k hk=>?_⟩;have hp:=(zhu h1 h2 hk).1;have hl:=hp.length_eq;refine⟨fun e=>by rw [e] at hl;simp at hl;omega,by omega,fun a ha=>?_⟩;obtain⟨l,hl,rfl,_⟩:=h.wr_mem hw;exact zeD (hp.subset ha)
end
theorem zeQ:∀ (Ts:List (List PathD)) (ds:List Nat) (P:PathD),P∈jd Ts ds->∃ T∈Ts,P∈T
 | Ts,[],P,h=>by cases Ts <;> cases h
 | [],d::ds,P,h=>by cases h
 | T::Ts,d::ds,P,h=>by
  unfold jd at h;rcases QV.1 h with h | h
  ·cases hd:T[d]? with
   | none=>rw [hd] at h;cases h
   | some Q =>
    rw [hd] at h;rw [KE.1 h];exact⟨T,KD,Ka hd⟩
  ·obtain⟨U,hU,h2⟩:=zeQ Ts ds P h;exact⟨U,JZ _ hU,h2⟩
theorem zhx:∀ (Ts:List (List PathD)) (ds:List Nat),(jd Ts ds).length<=Ts.length
 | Ts,[]=>by cases Ts <;> exact Gc _
 | [],d::ds=>UZ _
 | T::Ts,d::ds=>by
  unfold jd;rw [lap,Qw];have:=zhx Ts ds
  cases T[d]? <;> simp <;> omega
section
variable {p:Prg} {V:List UInt8}
theorem zga (hO:OkG p) {l:List InsD} (hl:l∈p.threads) {P:PathD} (hP:P∈zD V l):PathW p.init.length P:=by
 obtain⟨R,hR,rfl⟩:=UM.1 hP;have h1:=hO.tl l hl;rw [hO.il] at h1;obtain⟨a,b⟩:=zrr h1 V R hR;exact zq4 a b
theorem zdi (hO:OkG p) {m:MixD} (hm:m∈z6 p V):∃ ds∈z8 ((p.threads.map (zD V)).map List.length),ChoiceW p.init (jd (p.threads.map (zD V)) ds) m:=by
 unfold z6 zn8 at hm;obtain⟨ds,hds,he⟩:=List.mem_filterMap.1 hm;unfold zgq at he
 split at he
 ·rename_i h48;refine⟨ds,hds,hO.i1,hO.i6,?_,fun P hP=>?_,h48,(Ui he).symm⟩
  ·have:=zhx (p.threads.map (zD V)) ds;rw [QR] at this;have:=hO.t4;omega
  ·obtain⟨T,hT,h2⟩:=zeQ _ _ _ hP;obtain⟨l,hl,rfl⟩:=UM.1 hT;exact zga hO hl h2
 ·cases he
theorem zny {α:Type} {f g:α->Nat}:∀ {l:List α},(∀ a∈l,f a<=g a)->(l.map f).sum<=(l.map g).sum
 | [],_=>UZ _
 | a::l,h=>by
  rw [UE,UE,List.sum_cons,List.sum_cons];have:=h a KD;have:=zny (l:=l) fun b hb=>h b (JZ _ hb);omega
theorem zkH {α:Type} {f:α->Nat}:∀ {l:List α} {a:α},a∈l->f a<=(l.map f).sum
 | b::l,a,h=>by
  rw [UE,List.sum_cons];rcases UF.1 h with e | e
  ·rw [e];omega
  ·have:=zkH (f:=f) e;omega
theorem zgU (hO:OkG p):CandB p V:=by
 refine⟨fun l hl P hP=>(zga hO hl hP).b,fun hm=>?_,fun hm m hmm=>?_,fun hm hs m hmm h1=>?_,fun hm hs=>?_⟩
 ·have h1:(z6 p V).length<=(z8 ((p.threads.map (zD V)).map List.length)).length:=List.length_filterMap_le _ _;have h2:(z8 ((p.threads.map (zD V)).map List.length)).length=zR ((p.threads.map (zD V)).map List.length).reverse:=by
   unfold z8;rw [QR,KZ]
  have h3:=hm.2.1 p.threads.length (UZ _);rw [QA] at h3;rw [zeP] at h2;have h4:za5 ((p.threads.map (zD V)).map List.length)<=4096:=by rw [UK];exact h3
  omega
 ·obtain⟨_,_,h⟩:=zdi hO hmm;exact h.c
 ·obtain⟨_,_,h⟩:=zdi hO hmm;exact h.b
 ·show ((z6 p V).flatMap qA).length<=30000;rw [List.length_flatMap];have:((z6 p V).map fun m=>(qA m).length).sum<=((z6 p V).map fun m=>js m 20001).sum:=zny fun m hmm=>by
   obtain⟨_,_,h⟩:=zdi hO hmm;refine zoO (fun w hw=>h.w1 hw) ?_;have:=zkH (f:=fun m=>js m 20001) hmm;omega
  omega
end
def zbO (p:Prg) (V:List UInt8) (most:Nat):Bool :=
 zcz p&&(decide (zc4 p=some V)&&((p.threads.all fun l=>decide ((qs l V).length<=4096))&&(((List.range (p.threads.length+1)).all fun k=>decide (za5 ((p.threads.take k).map fun l=>(zD V l).length)<=4096)) &&
  (((z8 ((p.threads.map (zD V)).map List.length)).all fun ds=>(zgq p.init (jd (p.threads.map (zD V)) ds)).isSome)&&decide (((z6 p V).map fun m=>js m 20001).sum<=most)))))
theorem zhS {p:Prg} {V:List UInt8} {most:Nat} (h:zbO p V most=true):zcz p=true/\zc2 p V most:=by
 unfold zbO at h;simp only [bAT,dE,Qn,Ur] at h;obtain⟨h1,h2,h3,h4,h5,h6⟩:=h;exact⟨h1,h2,⟨h3,fun k hk=>h4 k (by omega),h5⟩,h6⟩
section
variable {w:Wd} {B most:Nat} {pc:List Value} {p:Prg} {V:List UInt8}
theorem zeC (hB:B<=w.heap.size) (hP:PrgX B w pc p) (hG:GlobE w) (hm20:most<=20000) (hq:zbO p V most=true) :
  Calls PG 11 #[.agg pc.toArray,i64 most] w fun e w'=>(∃ (xs:List zcC) (q:OA) (c:Nat),e = .returned (.tuple #[.slice q xs.length c,i64 0])/\xs.map (·.1)=qa p V/\OwnS exE 55 w.heap.size w' q c xs/\∀ x∈xs,OwnS evE 60 w.heap.size w' x.2.1 x.2.2 x.1.ev)/\Bw w w':=by
 obtain⟨hok,hc⟩:=zhS hq;refine cmo (zg0 hB hP hG hok hm20 fun V _=>zgU (zc7 hok)) ?_;rintro e X ⟨(⟨V',h1,h2⟩ | ⟨h1,_⟩),hb⟩
 ·have:V'=V:=by
   have e1:=h1.1;rw [hc.1] at e1;exact (Ui e1).symm
  subst this;exact⟨h2,hb⟩
 ·exact Gt hc (h1 V)
theorem zpf {M:Nat} (hB:B<=w.heap.size) (hP:PrgX B w pc p) (hG:GlobE w) (hm20:most<=20000) (hq:zbO p V M=true) (hn:decide (most<((z6 p V).map fun m=>js m 20001).sum)=true) :
  CB 11 #[.agg pc.toArray,i64 most] w (.tuple #[.slice none 0 0,i64 5]):=by
 obtain⟨hok,hc⟩:=zhS hq;refine cmo (zg0 hB hP hG hok hm20 fun V _=>zgU (zc7 hok)) ?_;rintro e X ⟨(⟨V',h1,h2⟩ | ⟨h1,h2⟩),hb⟩
 ·have:V'=V:=by
   have e1:=h1.1;rw [hc.1] at e1;exact (Ui e1).symm
  subst this;have:=dT hn;have:=h1.2.2;omega
 ·exact⟨h2,hb⟩
end
def stI (l v m:UInt8):InsD:=⟨2,0,l,false,v,false,0,0,m,0⟩
def ldI (d l m:UInt8):InsD:=⟨1,d,l,false,0,false,0,0,m,0⟩
def feI:InsD:=⟨7,0,0,false,0,false,0,0,3,0⟩
def p1P:Prg:=onP [[stI 0 1 0],[ldI 0 0 0]]
def p2P:Prg:=onP [[stI 0 1 0],[stI 0 1 0],[ldI 0 0 0]]
def p3P:Prg:=onP [[ldI 0 0 0,stI 0 1 0]]
def p4P:Prg:=onP [[feI]]
theorem zsF:zbO p1P [0,1] 9=true:=by kernel_rfl
theorem zsd:zbO p2P [0,1] 9=true:=by kernel_rfl
theorem zsE:zbO p3P [0,1] 9=true:=by kernel_rfl
theorem zsD:zbO p4P [0] 9=true:=by kernel_rfl
theorem zpv:decide (5<((z6 p2P [0,1]).map fun m=>js m 20001).sum)=true:=by kernel_rfl
theorem zra:(qa p1P [0,1]).length=2:=by kernel_rfl
theorem zq9:(qa p2P [0,1]).length=6:=by kernel_rfl
theorem zq8:(qa p3P [0,1]).length=2:=by kernel_rfl
theorem zq7:(qa p4P [0]).length=1:=by kernel_rfl
abbrev xA:ExD:=(qa p1P [0,1]).getD 0 (ex0 0)
abbrev yA:ExD:=(qa p1P [0,1]).getD 1 (ex0 0)
theorem zrW:(decide (xA.ev.length=3)&&(decide (yA.ev.length=3)&&(decide ((evA xA 2).v=0)&&(decide ((evA yA 2).v=1)&&(decide (xA.rf.to 0=4)&&(decide (yA.rf.to 1=4)&&(decide (xA.co.to 0=2)&&(jp yA.co xA.co&&(decide (xA.mem 0=1)&&(decide (yA.regs 8=1)&&(zax xA&&(zrl xA&&(!zbm xA yA)))))))))))))=true:=by kernel_rfl
theorem znt {X W:Wd} (L:List (List InsD×Nat)) (hL:∀ p∈L,X.heap[p.2]?=some (.cells (p.1.flatMap zH.enc).toArray 41 (0,0))) (hW:W=X.alloc (.cells (L.map fun p=>Value.slice (some ⟨p.2,0,none⟩) p.1.length p.1.length).toArray 42)):ThrsW W.heap.size W (some ⟨X.heap.size,0,none⟩) (L.map (·.1)):=by
 have f:W.heap[X.heap.size]?=some (.cells (L.map fun p=>Value.slice (some ⟨p.2,0,none⟩) p.1.length p.1.length).toArray 42 (0,0)):=by rw [hW];exact zz X _
 refine⟨L.map fun p=>(p.1,some ⟨p.2,0,none⟩,p.1.length),by rw [UK];rfl,.inr ⟨X.heap.size,0,rfl,hlt f,?_⟩,fun x hx=>?_⟩
 ·have e:(L.map fun p=>((p.1,some ⟨p.2,0,none⟩,p.1.length):zla)).flatMap zns.enc=L.map fun p=>Value.slice (some ⟨p.2,0,none⟩) p.1.length p.1.length:=by
   rw [Qs];clear hL hW f
   induction L with
   | nil=>rfl
   | cons a L ih=>rw [KW,ih];rfl
  rw [e];exact za f
 ·obtain⟨y,hy,rfl⟩:=UM.1 hx;have g:W.heap[y.2]?=some (.cells (y.1.flatMap zH.enc).toArray 41 (0,0)):=by rw [hW];exact qH _ (hL y hy)
  exact⟨.inr ⟨y.2,0,rfl,hlt g,za g⟩,fun _ a ha=>by
   obtain rfl:(⟨y.2,0,none⟩:Addr)=a:=Ui ha;exact hlt g⟩
abbrev zdS (X:Wd) (O:Nat) (l:List InsD):Prop:=X.heap[O]?=some (.cells (l.flatMap zH.enc).toArray 41 (0,0))
structure CanB (X:Wd) (l:List ExD) (q:OA) (xs:List zcC):Prop where
 e:xs.map (·.1)=l
 r:SlR exE X q xs
 v:∀ x∈xs,SlR evE X x.2.1 x.1.ev
theorem CanB.below {X Y:Wd} {l:List ExD} {q:OA} {xs:List zcC} (h:CanB X l q xs) (hb:Bw X Y):CanB Y l q xs:=⟨h.e,h.r.below hb,fun x hx=>(h.v x hx).below hb⟩
theorem CanB.len {X:Wd} {l:List ExD} {q:OA} {xs:List zcC} (h:CanB X l q xs):xs.length=l.length:=by rw [<- h.e,QR]
theorem j6 {X W:Wd} {P Q:Nat} {x:ExD} {qx:OA} {cx:Nat} {cs:Array Value} (hb:Bw X W) (fP:W.heap[P]?=some (.cells cs 55 (0,0))) (hcs:cs.size=333) {o:Obj} (fQ:W.heap[Q]?=some o) (hPQ:P≠Q) (hP:X.heap.size<=P) {K:Wd->Prop} (k:∀ Y,ExH Y P x qx cx->Y.heap[Q]?=some o->Bw X Y->K Y) :
  SatR ((storeVar 55 ⟨P,0,none⟩ (.agg (exC x qx cx).toArray)).run PG W) fun _ w'=>K w' :=
 zI (v := .agg (exC x qx cx).toArray) k55 fP (zC _ _ _) hcs (zaU _ _ _) (k _ (zx fP) ((zr (fun h=>hPQ h.symm)).trans fQ) (zy hb hP _))
theorem znI {X:Wd} {b c:Nat} {x:ExD} {q:OA} (fx:ExH X b x q c) {i:Nat} (hi:i<48):X.cell? ⟨b,0+50+1+i*1,none⟩=some (s64 (x.rf.to i)):=by
 obtain⟨A,T,hA,hE⟩:=zkR x q c;have hR:RelAt X b 50 55 A T x.rf:=⟨hA,by rw [<- hE];exact fx⟩;exact hR.cell hi
theorem zqV {X:Wd} {b c:Nat} {x:ExD} {q:OA} (fx:ExH X b x q c) {i:Nat} (hi:i<48):X.cell? ⟨b,0+99+1+i*1,none⟩=some (s64 (x.co.to i)):=by
 obtain⟨A,T,hA,hE⟩:=zix x q c;have hR:RelAt X b 99 55 A T x.co:=⟨hA,by rw [<- hE];exact fx⟩;exact hR.cell hi
theorem zpT {X:Wd} {b:Nat} {x:ExD} {q:OA} {c i j:Nat} (fx:zw X ⟨b,0,none⟩ (exC x q c)) (hi:i*8+j<32):X.cell? ⟨b,0+295+i*8+j*1,none⟩=some (u8 (x.regs (i*8+j))):=by
 obtain⟨A,T,hA,hE⟩:=zlU x q c [];have h2:(exC x q c)[295+(i*8+j)]?=some (u8 (x.regs (i*8+j))):=by
  have h:=hE x.regs;rw [QN] at h;rw [h,jo hA,Js (by rw [zo];exact hi)];unfold seg;rw [KY,Kl hi];rfl
 have h4:=zc fx h2;rw [show 0+(295+(i*8+j))=0+295+i*8+j*1 by omega] at h4;exact h4
abbrev zEx:Obj := .cells zke.toArray 55
theorem zsj {w:Wd} (hG:GlobE w):CB 10 #[] w (.bool true):=by
 refine jf 183 [] (.s .p (.c .p (.c .p (.c .p (.c .p (.c .p (.c .p (.c .p (.c .p (.c .p .p)))))))))) Tryz.func10 ?_;refine⟨Nat,fun O=>⟨[(1,.slice (some ⟨O,0,none⟩) 1 1)],[]⟩,fun O X=>zdS X O [stI 0 1 0]/\Bw w X,?_,?_⟩
 ·refine⟨[.bool false,u8 1],by kernel_rfl,?_⟩;refine⟨zH.enc (stI 0 1 0),by kernel_rfl,?_⟩;exact⟨⟨by decide,by decide,rfl⟩,zH.enc (stI 0 1 0),rfl,w.heap.size,(cvE rfl rfl),zz w _,(zba w _)⟩
 rintro O X ⟨fO,hbX⟩;refine⟨Nat,fun D=>⟨[(1,.slice (some ⟨O,0,none⟩) 1 1),(2,.slice (some ⟨D,0,none⟩) 1 1)],[]⟩,fun D Y=>zdS Y O [stI 0 1 0]/\zdS Y D [ldI 0 0 0]/\Bw w Y,?_,?_⟩
 ·refine⟨zH.enc (ldI 0 0 0),by kernel_rfl,?_⟩;exact⟨⟨by decide,by decide,rfl⟩,zH.enc (ldI 0 0 0),rfl,X.heap.size,(cvE rfl rfl),qH _ fO,zz X _,hbX.alloc hbX.size _⟩
 clear fO hbX;clear X;rintro D X ⟨fO,fD,hbX⟩;refine⟨OA×List zcC×Nat,fun s=>⟨[(1,.slice (some ⟨O,0,none⟩) 1 1),(2,.slice (some ⟨D,0,none⟩) 1 1),(3,.slice s.1 s.2.1.length s.2.2),(4,i64 0)],[]⟩,fun s Z=>CanB Z (qa p1P [0,1]) s.1 s.2.1/\zdS Z O [stI 0 1 0]/\zdS Z D [ldI 0 0 0]/\Bw w Z,?_,?_⟩
 ·obtain⟨S,hS⟩:=nm (X);have dXS:Bw X S:=by rw [hS];exact Ge _ _
  have hbS:Bw w S:=by rw [hS];exact hbX
  rw [<- hS];obtain⟨W1,hW1⟩:=nm (S.alloc (.cells #[.slice (some ⟨O,0,none⟩) 1 1,.slice (some ⟨D,0,none⟩) 1 1] 42));have b1:Bw S W1:=by rw [hW1];exact (zba _ _)
  refine⟨⟨by decide,by decide,rfl⟩,[.slice (some ⟨O,0,none⟩) 1 1,.slice (some ⟨D,0,none⟩) 1 1],rfl,?_⟩;have hW1b:S.alloc (.cells [.slice (some ⟨O,0,none⟩) 1 1,.slice (some ⟨D,0,none⟩) 1 1].toArray 42)=W1:=hW1.symm;rw [hW1b];have hT:ThrsW W1.heap.size W1 (some ⟨S.heap.size,0,none⟩) [[stI 0 1 0],[ldI 0 0 0]]:=znt [([stI 0 1 0],O),([ldI 0 0 0],D)] (fun p hp=>by
   simp only [UF,Qz,Gp] at hp;rcases hp with rfl | rfl
   ·exact zb dXS fO
   ·exact zb dXS fD) hW1
  have h9:=zeb (ct:=2) hT (by decide) (fun l hl=>by
   simp only [UF,Qz,Gp] at hl;rcases hl with rfl | rfl <;> decide)
  refine cmo h9 ?_;rintro e U ⟨⟨vs,rfl,hP⟩,hbU⟩;have b2:=zst b1 hbU;have bU:=zst hbS b2;refine cmo (zeC (UZ _) hP (hG.below bU) (by decide) zsF) ?_;rintro e V ⟨⟨xs,qq,cc,rfl,h1,h2,h3⟩,hbV⟩;have bXV:=dXS.trans (((zst b2 hbV)).mono dXS.size);exact⟨(qq,xs,cc),(cvE rfl rfl),⟨h1,h2.row,fun x hx=>(h3 x hx).row⟩,zb (bXV) fO,zb (bXV) fD,(zst hbX bXV)⟩
 clear fO fD hbX;clear X;rintro⟨q3,xs3,c3⟩ X ⟨cb3,fO,fD,hbX⟩;dsimp only at cb3 ⊢;refine⟨OA×List zcC×Nat,fun s=>⟨[(1,.slice (some ⟨O,0,none⟩) 1 1),(2,.slice (some ⟨D,0,none⟩) 1 1),(3,.slice q3 xs3.length c3),(4,i64 0),(5,.slice s.1 s.2.1.length s.2.2),(6,i64 0)],[]⟩,fun s Z=>CanB Z (qa p2P [0,1]) s.1 s.2.1/\CanB Z (qa p1P [0,1]) q3 xs3/\zdS Z O [stI 0 1 0]/\zdS Z D [ldI 0 0 0]/\Bw w Z,?_,?_⟩
 ·obtain⟨S,hS⟩:=nm (X);have dXS:Bw X S:=by rw [hS];exact Ge _ _
  have hbS:Bw w S:=by rw [hS];exact hbX
  rw [<- hS];obtain⟨W1,hW1⟩:=nm (S.alloc (.cells #[.slice (some ⟨O,0,none⟩) 1 1,.slice (some ⟨O,0,none⟩) 1 1,.slice (some ⟨D,0,none⟩) 1 1] 42));have b1:Bw S W1:=by rw [hW1];exact (zba _ _)
  refine⟨⟨by decide,by decide,rfl⟩,[.slice (some ⟨O,0,none⟩) 1 1,.slice (some ⟨O,0,none⟩) 1 1,.slice (some ⟨D,0,none⟩) 1 1],rfl,?_⟩;have hW1b:S.alloc (.cells [.slice (some ⟨O,0,none⟩) 1 1,.slice (some ⟨O,0,none⟩) 1 1,.slice (some ⟨D,0,none⟩) 1 1].toArray 42)=W1:=hW1.symm;rw [hW1b];have hT:ThrsW W1.heap.size W1 (some ⟨S.heap.size,0,none⟩) [[stI 0 1 0],[stI 0 1 0],[ldI 0 0 0]]:=znt [([stI 0 1 0],O),([stI 0 1 0],O),([ldI 0 0 0],D)] (fun p hp=>by
   simp only [UF,Qz,Gp] at hp;rcases hp with rfl | rfl | rfl
   ·exact zb dXS fO
   ·exact zb dXS fO
   ·exact zb dXS fD) hW1
  have h9:=zeb (ct:=3) hT (by decide) (fun l hl=>by
   simp only [UF,Qz,Gp] at hl;rcases hl with rfl | rfl | rfl <;> decide)
  refine cmo h9 ?_;rintro e U ⟨⟨vs,rfl,hP⟩,hbU⟩;have b2:=zst b1 hbU;have bU:=zst hbS b2;refine cmo (zeC (UZ _) hP (hG.below bU) (by decide) zsd) ?_;rintro e V ⟨⟨xs,qq,cc,rfl,h1,h2,h3⟩,hbV⟩;have bXV:=dXS.trans (((zst b2 hbV)).mono dXS.size);exact⟨(qq,xs,cc),(cvE rfl rfl),⟨h1,h2.row,fun x hx=>(h3 x hx).row⟩,cb3.below (bXV),zb (bXV) fO,zb (bXV) fD,(zst hbX bXV)⟩
 clear cb3 fO fD hbX;clear X;rintro⟨q5,xs5,c5⟩ X ⟨cb5,cb3,fO,fD,hbX⟩;dsimp only at cb5 ⊢;refine⟨OA×List zcC×Nat,fun s=>⟨[(1,.slice (some ⟨O,0,none⟩) 1 1),(2,.slice (some ⟨D,0,none⟩) 1 1),(3,.slice q3 xs3.length c3),(4,i64 0),(5,.slice q5 xs5.length c5),(6,i64 0),(7,.slice s.1 s.2.1.length s.2.2),(8,i64 0)],[]⟩,fun s Z=>CanB Z (qa p3P [0,1]) s.1 s.2.1/\CanB Z (qa p2P [0,1]) q5 xs5/\CanB Z (qa p1P [0,1]) q3 xs3/\zdS Z O [stI 0 1 0]/\zdS Z D [ldI 0 0 0]/\Bw w Z,?_,?_⟩
 ·obtain⟨S0,hS0⟩:=nm (X.drew);have d0:Bw X S0:=by rw [hS0];exact (Ge _ _).drew
  refine DrawE.ord [] [0,1,2,3,4,5,6,7,8,9,10,11,12,13,14] (by kernel_rfl) ?_;rw [<- hS0];have gO:=zb d0 fO;have gD:=zb d0 fD;refine⟨0,rfl,by decide,?_⟩;refine⟨zH.enc (ldI 0 0 0),rfl,za gD,hlt gD,0,rfl,by decide,?_⟩;refine⟨zH.enc (stI 0 1 0),rfl,za gO,hlt gO,?_⟩;obtain⟨S,hS⟩:=nm (S0.alloc (.cells (zH.enc (ldI 0 0 0)++zH.enc (stI 0 1 0)).toArray 41));have d1:Bw S0 S:=by rw [hS];exact (zba _ _)
  refine⟨⟨by decide,by decide,rfl⟩,zH.enc (ldI 0 0 0)++zH.enc (stI 0 1 0),rfl,?_⟩;have hSb:S0.alloc (.cells (zH.enc (ldI 0 0 0)++zH.enc (stI 0 1 0)).toArray 41)=S:=hS.symm;rw [hSb];refine⟨d1,?_⟩;have fN:zdS S S0.heap.size [ldI 0 0 0,stI 0 1 0]:=by rw [hS];exact zz S0 _
  have dXS:Bw X S:=zst d0 d1;have hbS:Bw w S:=zst hbX dXS;obtain⟨W1,hW1⟩:=nm (S.alloc (.cells #[.slice (some ⟨S0.heap.size,0,none⟩) 2 2] 42));have b1:Bw S W1:=by rw [hW1];exact (zba _ _)
  refine⟨⟨by decide,by decide,rfl⟩,[.slice (some ⟨S0.heap.size,0,none⟩) 2 2],rfl,?_⟩;have hW1b:S.alloc (.cells [.slice (some ⟨S0.heap.size,0,none⟩) 2 2].toArray 42)=W1:=hW1.symm;rw [hW1b];refine⟨b1,?_⟩;have hT:ThrsW W1.heap.size W1 (some ⟨S.heap.size,0,none⟩) [[ldI 0 0 0,stI 0 1 0]]:=znt [([ldI 0 0 0,stI 0 1 0],S0.heap.size)] (fun p hp=>by
   simp only [UF,Qz,Gp] at hp;rcases hp with rfl
   ·exact fN) hW1
  have h9:=zeb (ct:=1) hT (by decide) (fun l hl=>by
   simp only [UF,Qz,Gp] at hl;rcases hl with rfl <;> decide)
  refine cmo h9 ?_;rintro e U ⟨⟨vs,rfl,hP⟩,hbU⟩;refine⟨hbU,?_⟩;have b2:=zst b1 hbU;have bU:=zst hbS b2;refine cmo (zeC (UZ _) hP (hG.below bU) (by decide) zsE) ?_;rintro e V ⟨⟨xs,qq,cc,rfl,h1,h2,h3⟩,hbV⟩;refine⟨hbV,?_⟩;have bXV:=dXS.trans (((zst b2 hbV)).mono dXS.size);exact⟨(qq,xs,cc),(cvE rfl rfl),⟨h1,h2.row,fun x hx=>(h3 x hx).row⟩,cb5.below (bXV),cb3.below (bXV),zb (bXV) fO,zb (bXV) fD,(zst hbX bXV)⟩
 clear cb5 cb3 fO fD hbX;clear X;rintro⟨q7,xs7,c7⟩ X ⟨cb7,cb5,cb3,fO,fD,hbX⟩;dsimp only at cb7 ⊢;refine⟨OA×List zcC×Nat,fun s=>⟨[(1,.slice (some ⟨O,0,none⟩) 1 1),(2,.slice (some ⟨D,0,none⟩) 1 1),(3,.slice q3 xs3.length c3),(4,i64 0),(5,.slice q5 xs5.length c5),(6,i64 0),(7,.slice q7 xs7.length c7),(8,i64 0),(9,.slice s.1 s.2.1.length s.2.2),(10,i64 0)],[]⟩,fun s Z=>CanB Z (qa p4P [0]) s.1 s.2.1/\CanB Z (qa p3P [0,1]) q7 xs7/\CanB Z (qa p2P [0,1]) q5 xs5/\CanB Z (qa p1P [0,1]) q3 xs3/\zdS Z O [stI 0 1 0]/\zdS Z D [ldI 0 0 0]/\Bw w Z,?_,?_⟩
 ·obtain⟨S,hS⟩:=nm (X);have fN0:=zz X (.cells (zH.enc feI).toArray 41);clear hS;clear S;obtain⟨S,hS⟩:=nm (X.alloc (.cells (zH.enc feI).toArray 41));refine⟨zH.enc feI,by kernel_rfl,?_⟩;refine⟨⟨by decide,by decide,rfl⟩,zH.enc feI,rfl,?_⟩;have hSb:X.alloc (.cells (zH.enc feI).toArray 41)=S:=hS.symm;rw [hSb];have fN:zdS S X.heap.size [feI]:=by rw [hS];exact fN0
  have dXS:Bw X S:=by rw [hS];exact (zba _ _)
  have hbS:Bw w S:=zst hbX dXS;obtain⟨W1,hW1⟩:=nm (S.alloc (.cells #[.slice (some ⟨X.heap.size,0,none⟩) 1 1] 42));have b1:Bw S W1:=by rw [hW1];exact (zba _ _)
  refine⟨⟨by decide,by decide,rfl⟩,[.slice (some ⟨X.heap.size,0,none⟩) 1 1],rfl,?_⟩;have hW1b:S.alloc (.cells [.slice (some ⟨X.heap.size,0,none⟩) 1 1].toArray 42)=W1:=hW1.symm;rw [hW1b];have hT:ThrsW W1.heap.size W1 (some ⟨S.heap.size,0,none⟩) [[feI]]:=znt [([feI],X.heap.size)] (fun p hp=>by
   simp only [UF,Qz,Gp] at hp;rcases hp with rfl
   ·exact fN) hW1
  have h9:=zeb (ct:=1) hT (by decide) (fun l hl=>by
   simp only [UF,Qz,Gp] at hl;rcases hl with rfl <;> decide)
  refine cmo h9 ?_;rintro e U ⟨⟨vs,rfl,hP⟩,hbU⟩;have b2:=zst b1 hbU;have bU:=zst hbS b2;refine cmo (zeC (UZ _) hP (hG.below bU) (by decide) zsD) ?_;rintro e V ⟨⟨xs,qq,cc,rfl,h1,h2,h3⟩,hbV⟩;have bXV:=dXS.trans (((zst b2 hbV)).mono dXS.size);exact⟨(qq,xs,cc),(cvE rfl rfl),⟨h1,h2.row,fun x hx=>(h3 x hx).row⟩,cb7.below (bXV),cb5.below (bXV),cb3.below (bXV),zb (bXV) fO,zb (bXV) fD,(zst hbX bXV)⟩
 clear cb7 cb5 cb3 fO fD hbX;clear X;rintro⟨q9,xs9,c9⟩ X ⟨cb9,cb7,cb5,cb3,fO,fD,hbX⟩;dsimp only at cb9 ⊢;refine⟨Unit,fun _=>⟨[(1,.slice (some ⟨O,0,none⟩) 1 1),(2,.slice (some ⟨D,0,none⟩) 1 1),(3,.slice q3 xs3.length c3),(4,i64 0),(5,.slice q5 xs5.length c5),(6,i64 0),(7,.slice q7 xs7.length c7),(8,i64 0),(9,.slice q9 xs9.length c9),(10,i64 0),(12,i64 5)],[]⟩,fun _ Z=>CanB Z (qa p4P [0]) q9 xs9/\CanB Z (qa p3P [0,1]) q7 xs7/\CanB Z (qa p2P [0,1]) q5 xs5/\CanB Z (qa p1P [0,1]) q3 xs3/\zdS Z O [stI 0 1 0]/\zdS Z D [ldI 0 0 0]/\Bw w Z,?_,?_⟩
 ·obtain⟨S,hS⟩:=nm (X);have dXS:Bw X S:=by rw [hS];exact Ge _ _
  have hbS:Bw w S:=by rw [hS];exact hbX
  rw [<- hS];obtain⟨W1,hW1⟩:=nm (S.alloc (.cells #[.slice (some ⟨O,0,none⟩) 1 1,.slice (some ⟨O,0,none⟩) 1 1,.slice (some ⟨D,0,none⟩) 1 1] 42));have b1:Bw S W1:=by rw [hW1];exact (zba _ _)
  refine⟨⟨by decide,by decide,rfl⟩,[.slice (some ⟨O,0,none⟩) 1 1,.slice (some ⟨O,0,none⟩) 1 1,.slice (some ⟨D,0,none⟩) 1 1],rfl,?_⟩;have hW1b:S.alloc (.cells [.slice (some ⟨O,0,none⟩) 1 1,.slice (some ⟨O,0,none⟩) 1 1,.slice (some ⟨D,0,none⟩) 1 1].toArray 42)=W1:=hW1.symm;rw [hW1b];have hT:ThrsW W1.heap.size W1 (some ⟨S.heap.size,0,none⟩) [[stI 0 1 0],[stI 0 1 0],[ldI 0 0 0]]:=znt [([stI 0 1 0],O),([stI 0 1 0],O),([ldI 0 0 0],D)] (fun p hp=>by
   simp only [UF,Qz,Gp] at hp;rcases hp with rfl | rfl | rfl
   ·exact zb dXS fO
   ·exact zb dXS fO
   ·exact zb dXS fD) hW1
  have h9:=zeb (ct:=3) hT (by decide) (fun l hl=>by
   simp only [UF,Qz,Gp] at hl;rcases hl with rfl | rfl | rfl <;> decide)
  refine cmo h9 ?_;rintro e U ⟨⟨vs,rfl,hP⟩,hbU⟩;have b2:=zst b1 hbU;have bU:=zst hbS b2;refine cmo (zpf (UZ _) hP (hG.below bU) (by decide) zsd zpv) ?_;rintro e V ⟨rfl,hbV⟩;have bXV:=dXS.trans (((zst b2 hbV)).mono dXS.size);exact⟨(),(cvE rfl rfl),cb9.below (bXV),cb7.below (bXV),cb5.below (bXV),cb3.below (bXV),zb (bXV) fO,zb (bXV) fD,(zst hbX bXV)⟩
 clear cb9 cb7 cb5 cb3 fO fD hbX;clear X;rintro _ X ⟨cb9,cb7,cb5,cb3,fO,fD,hbX⟩;have l3:xs3.length=2:=cb3.len.trans zra;have l5:xs5.length=6:=cb5.len.trans zq9;have l7:xs7.length=2:=cb7.len.trans zq8;have l9:xs9.length=1:=cb9.len.trans zq7;refine⟨Unit,fun _=>⟨[(3,.slice q3 xs3.length c3)],[]⟩,fun _ Z=>X=Z,?_,?_⟩
 ·exact⟨0,rfl,0,rfl,0,rfl,brN (by decide) (brN (by decide) (brN (by rw [l3];rfl) (brN (by rw [l5];rfl) (brN (by rw [l7];rfl) (brN (by rw [l9];rfl) ⟨(),(cvE rfl rfl),rfl⟩)))))⟩
 rintro _ _ rfl;clear cb5 cb7 cb9 fO fD l5 l7 l9;have hxs:∀ i,i<2->∃ x,xs3[i]?=some x/\x.1=(qa p1P [0,1]).getD i (ex0 0):=fun i hi=>by
  have hl:i<xs3.length:=by omega
  refine⟨xs3[i],gE hl,?_⟩;rw [<- cb3.e,gDe,KY,gE hl];rfl
 obtain⟨x,hx0,hx1⟩:=hxs 0 (by decide);obtain⟨y,hy0,hy1⟩:=hxs 1 (by decide);obtain⟨bq,oq,hqq,hbq,hat⟩:=cb3.r.at (by omega:0<xs3.length);have hgx:xs3[0]'(by omega)=x:=Ui ((gE (by omega)).symm.trans hx0);have hgy:xs3[1]'(by omega)=y:=Ui ((gE (by omega)).symm.trans hy0);have atx:zw X ⟨bq,oq+0*333,none⟩ (exC x.1 x.2.1 x.2.2):=by have:=hat 0 (by omega);rw [hgx] at this;exact this
 have aty:zw X ⟨bq,oq+1*333,none⟩ (exC y.1 y.2.1 y.2.2):=by have:=hat 1 (by omega);rw [hgy] at this;exact this
 have vx:=cb3.v x (by rw [<- hgx];exact gM _);have vy:=cb3.v y (by rw [<- hgy];exact gM _);subst hqq;clear hat hgx hgy hx0 hy0 hxs;refine⟨Nat×Nat,fun s=>⟨[(13,At0 s.1),(14,At0 s.2)],[]⟩,fun s Z=>ExH Z s.1 x.1 x.2.1 x.2.2/\ExH Z s.2 y.1 y.2.1 y.2.2/\Bw X Z,?_,?_⟩
 ·have b0:Bw X X.drew:=(Ge _ _).drew;have y0:=b0.size;refine DrawE.treeQ [8,9] (.op 0 (.op 1 (.op 2 (.op 3 (.op 4 (.alt (.op 6 (.alt (.op 7 (.alt (.op 8 (.op 5 (.op 9 (.nil)))) (.op 5 (.op 8 (.op 9 (.nil)))))) (.op 5 (.op 7 (.op 8 (.op 9 (.nil))))))) (.alt (.op 7 (.alt (.op 6 (.alt (.op 8 (.op 5 (.op 9 (.nil)))) (.op 5 (.op 8 (.op 9 (.nil)))))) (.op 5 (.op 6 (.op 8 (.op 9 (.nil))))))) (.op 5 (.alt (.op 6 (.op 7 (.op 8 (.op 9 (.nil))))) (.op 7 (.op 6 (.op 8 (.op 9 (.nil)))))))))))))) (by kernel_rfl) ⟨0,rfl,by omega,?_⟩;refine⟨exC x.1 x.2.1 x.2.2,zC _ _ _,zm b0 atx,nL hbq b0.size,1,rfl,by omega,?_⟩;refine Gj ?_ (Gj ?_ ?_)
  ·refine⟨(zba _ _),?_⟩;have b1:=b0.alloc b0.size zEx;have z1:=wz X.drew zEx;refine Gj ?_ ?_
   ·refine⟨(zba _ _),?_⟩;have b2:=b1.alloc b1.size zEx;have z2:=wz (X.drew.alloc zEx) zEx;refine Gj ?_ ?_
    ·exact j6 (P:=X.drew.heap.size) (Q:=(X.drew.alloc zEx).heap.size) b2 (qH zEx (zz X.drew zEx)) zW (zz (X.drew.alloc zEx) zEx) (by omega) (by omega) fun V3 p3 q3 b3=>⟨exC y.1 y.2.1 y.2.2,zC _ _ _,zm b3 aty,nL hbq b3.size,j6 (P:=(X.drew.alloc zEx).heap.size) (Q:=X.drew.heap.size) b3 (q3) zW (p3) (by omega) (by omega) fun V5 p5 q5 b5=>⟨(X.drew.heap.size,(X.drew.alloc zEx).heap.size),(cvE rfl rfl),q5,p5,b5⟩⟩
    ·exact⟨exC y.1 y.2.1 y.2.2,zC _ _ _,zm b2 aty,nL hbq b2.size,j6 (P:=X.drew.heap.size) (Q:=(X.drew.alloc zEx).heap.size) b2 (qH zEx (zz X.drew zEx)) zW (zz (X.drew.alloc zEx) zEx) (by omega) (by omega) fun V7 p7 q7 b7=>j6 (P:=(X.drew.alloc zEx).heap.size) (Q:=X.drew.heap.size) b7 (q7) zW (p7) (by omega) (by omega) fun V8 p8 q8 b8=>⟨(X.drew.heap.size,(X.drew.alloc zEx).heap.size),(cvE rfl rfl),q8,p8,b8⟩⟩
   ·refine⟨exC y.1 y.2.1 y.2.2,zC _ _ _,zm b1 aty,nL hbq b1.size,(zba _ _),?_⟩;have b10:=b1.alloc b1.size zEx;have z10:=wz (X.drew.alloc zEx) zEx;exact j6 (P:=X.drew.heap.size) (Q:=(X.drew.alloc zEx).heap.size) b10 (qH zEx (zz X.drew zEx)) zW (zz (X.drew.alloc zEx) zEx) (by omega) (by omega) fun V11 p11 q11 b11=>j6 (P:=(X.drew.alloc zEx).heap.size) (Q:=X.drew.heap.size) b11 (q11) zW (p11) (by omega) (by omega) fun V12 p12 q12 b12=>⟨(X.drew.heap.size,(X.drew.alloc zEx).heap.size),(cvE rfl rfl),q12,p12,b12⟩
  ·refine⟨(zba _ _),?_⟩;have b13:=b0.alloc b0.size zEx;have z13:=wz X.drew zEx;refine Gj ?_ ?_
   ·refine⟨(zba _ _),?_⟩;have b14:=b13.alloc b13.size zEx;have z14:=wz (X.drew.alloc zEx) zEx;refine Gj ?_ ?_
    ·exact j6 (P:=(X.drew.alloc zEx).heap.size) (Q:=X.drew.heap.size) b14 (zz (X.drew.alloc zEx) zEx) zW (qH zEx (zz X.drew zEx)) (by omega) (by omega) fun V15 p15 q15 b15=>⟨exC y.1 y.2.1 y.2.2,zC _ _ _,zm b15 aty,nL hbq b15.size,j6 (P:=X.drew.heap.size) (Q:=(X.drew.alloc zEx).heap.size) b15 (q15) zW (p15) (by omega) (by omega) fun V17 p17 q17 b17=>⟨((X.drew.alloc zEx).heap.size,X.drew.heap.size),(cvE rfl rfl),q17,p17,b17⟩⟩
    ·exact⟨exC y.1 y.2.1 y.2.2,zC _ _ _,zm b14 aty,nL hbq b14.size,j6 (P:=(X.drew.alloc zEx).heap.size) (Q:=X.drew.heap.size) b14 (zz (X.drew.alloc zEx) zEx) zW (qH zEx (zz X.drew zEx)) (by omega) (by omega) fun V19 p19 q19 b19=>j6 (P:=X.drew.heap.size) (Q:=(X.drew.alloc zEx).heap.size) b19 (q19) zW (p19) (by omega) (by omega) fun V20 p20 q20 b20=>⟨((X.drew.alloc zEx).heap.size,X.drew.heap.size),(cvE rfl rfl),q20,p20,b20⟩⟩
   ·refine⟨exC y.1 y.2.1 y.2.2,zC _ _ _,zm b13 aty,nL hbq b13.size,(zba _ _),?_⟩;have b22:=b13.alloc b13.size zEx;have z22:=wz (X.drew.alloc zEx) zEx;exact j6 (P:=(X.drew.alloc zEx).heap.size) (Q:=X.drew.heap.size) b22 (zz (X.drew.alloc zEx) zEx) zW (qH zEx (zz X.drew zEx)) (by omega) (by omega) fun V23 p23 q23 b23=>j6 (P:=X.drew.heap.size) (Q:=(X.drew.alloc zEx).heap.size) b23 (q23) zW (p23) (by omega) (by omega) fun V24 p24 q24 b24=>⟨((X.drew.alloc zEx).heap.size,X.drew.heap.size),(cvE rfl rfl),q24,p24,b24⟩
  ·refine⟨exC y.1 y.2.1 y.2.2,zC _ _ _,zm b0 aty,nL hbq b0.size,Gj ?_ ?_⟩
   ·refine⟨(zba _ _),?_⟩;have b26:=b0.alloc b0.size zEx;have z26:=wz X.drew zEx;refine⟨(zba _ _),?_⟩;have b27:=b26.alloc b26.size zEx;have z27:=wz (X.drew.alloc zEx) zEx;exact j6 (P:=X.drew.heap.size) (Q:=(X.drew.alloc zEx).heap.size) b27 (qH zEx (zz X.drew zEx)) zW (zz (X.drew.alloc zEx) zEx) (by omega) (by omega) fun V28 p28 q28 b28=>j6 (P:=(X.drew.alloc zEx).heap.size) (Q:=X.drew.heap.size) b28 (q28) zW (p28) (by omega) (by omega) fun V29 p29 q29 b29=>⟨(X.drew.heap.size,(X.drew.alloc zEx).heap.size),(cvE rfl rfl),q29,p29,b29⟩
   ·refine⟨(zba _ _),?_⟩;have b30:=b0.alloc b0.size zEx;have z30:=wz X.drew zEx;refine⟨(zba _ _),?_⟩;have b31:=b30.alloc b30.size zEx;have z31:=wz (X.drew.alloc zEx) zEx;exact j6 (P:=(X.drew.alloc zEx).heap.size) (Q:=X.drew.heap.size) b31 (zz (X.drew.alloc zEx) zEx) zW (qH zEx (zz X.drew zEx)) (by omega) (by omega) fun V32 p32 q32 b32=>j6 (P:=X.drew.heap.size) (Q:=(X.drew.alloc zEx).heap.size) b32 (q32) zW (p32) (by omega) (by omega) fun V33 p33 q33 b33=>⟨((X.drew.alloc zEx).heap.size,X.drew.heap.size),(cvE rfl rfl),q33,p33,b33⟩
 rintro⟨P,Q⟩ Y ⟨fX,fY,hbY⟩;dsimp only at fX fY ⊢;replace vx:=vx.below hbY;replace vy:=vy.below hbY;replace hbX:=zst hbX hbY;clear hbY atx aty cb3 l3 hbq;clear X;obtain⟨x,qx,cx⟩:=x;obtain⟨y,qy,cy⟩:=y;dsimp only at hx1 hy1 vx vy fX fY;have hsay:=zrW;have e1:xA=x:=hx1.symm;have e2:yA=y:=hy1.symm;rw [e1,e2] at hsay;clear hx1 hy1 e1 e2;simp only [bAT,dE,KN] at hsay;obtain⟨s1,s2,s3,s4,s5,s6,s7,s8,s9,s10,s11,s12,s13⟩:=hsay
 rename Wd=>X
 have hvx:=zpQ s12 vx;have sxx:=zmt x;obtain⟨bx,ox,hqx,hbx,hatx⟩:=zfI vx (by omega);obtain⟨by_,oy,hqy,hby,haty⟩:=zfI vy (by omega);have atx:=hatx 2 (by omega);have aty:=haty 2 (by omega);subst hqx hqy;have hbL:Bw X X:=Ge _ _;refine⟨_,zbc (za fX),brE (Uv (by rw [s1];rfl)) ⟨_,zbc (za fX),2,rfl,by omega,?_⟩⟩;refine⟨u8 (evA x 2).v,by have:=zc atx (i:=3) (v:=u8 (evA x 2).v) rfl;exact this,brE (Uv (by rw [s3];rfl)) ⟨_,zbc (za fY),2,rfl,by omega,?_⟩⟩;refine⟨u8 (evA y 2).v,by have:=zc aty (i:=3) (v:=u8 (evA y 2).v) rfl;exact this,brE (Uv (by rw [s4];rfl)) ⟨0,rfl,by decide,?_⟩⟩;refine⟨s64 (x.rf.to 0),znI fX (by decide),brE (Uv (by rw [s5];rfl)) ⟨1,rfl,by decide,?_⟩⟩;refine⟨s64 (y.rf.to 1),znI fY (by decide),brE (Uv (by rw [s6];rfl)) ⟨0,rfl,by decide,?_⟩⟩;refine⟨s64 (x.co.to 0),zqV fX (by decide),brE (Uv (by rw [s7];rfl)) ⟨_,zk _,zpr fY,hlt fY,_,zk _,zpr fX,hlt fX,_,fun w=>zbd _ _ _ _ w,brE (s8) ⟨0,rfl,by decide,?_⟩⟩⟩;refine⟨u8 (x.mem 0),zpU (za fX) (by decide),brE (Uv (by rw [s9];rfl)) ⟨1,rfl,by decide,?_⟩⟩;refine⟨0,rfl,by decide,?_⟩;refine⟨u8 (y.regs 8),zpT (za fY) (i:=1) (j:=0) (by decide),brE (Uv (by rw [s10];rfl)) ⟨_,zC _ _ _,za fX,hlt fX,cmo (zo5 (hvx.below hbL) (hG.t64.below hbX)) ?_⟩⟩;rintro e U ⟨rfl,hbU⟩;have fX:=zb hbU fX;have fY:=zb hbU fY;replace hbX:=zst hbX hbU;replace hbL:=zst hbL hbU;refine brE (s11) ⟨_,zC _ _ _,za fX,hlt fX,_,zC _ _ _,za fX,hlt fX,cmo (ziK (vx.below hbL) (vx.below hbL) (by omega)) ?_⟩;rintro e U ⟨rfl,hbU⟩;have fX:=zb hbU fX;have fY:=zb hbU fY;replace hbX:=zst hbX hbU;replace hbL:=zst hbL hbU;refine brE (sxx) ⟨_,zC _ _ _,za fX,hlt fX,_,zC _ _ _,za fY,hlt fY,cmo (ziK (vx.below hbL) (vy.below hbL) (by omega)) ?_⟩;rintro e U ⟨rfl,hbU⟩;have fX:=zb hbU fX;have fY:=zb hbU fY;replace hbX:=zst hbX hbU;replace hbL:=zst hbL hbU;exact⟨rb (by rw [s13];rfl),hbX⟩
section
variable {w:Wd}
theorem zrS {q:OA} {cap:Nat} {l:List InsD} (hl:SlR zH w q l) (hn:l.length<=1000000) :
  Calls PG 23 #[.slice q l.length cap] w fun e w'=>(∃ b:Bool,e = .returned (.bool b))/\Bw w w':=by
 refine jf 35 [.slice q l.length cap] (.s .p (.s .p (.c .p .p))) Tryz.func23 ?_;refine⟨Nat,fun n=>⟨[(0,.slice q l.length cap),(3,i64 (n:Nat))],[]⟩,fun n X=>Bw w X,?_,?_⟩
 ·refine⟨Nat×Nat,fun s=>⟨[(0,.slice q l.length cap),(3,i64 (s.2:Nat)),(6,.slice q l.length cap),(7,i64 l.length),(8,i64 (s.1:Nat))],[]⟩,fun s X=>(s.1<=l.length/\s.2<=s.1)/\Bw w X,fun s=>l.length-s.1,(0,0),
   (cvE rfl rfl),⟨⟨Gc _,UZ _⟩,Ge _ _⟩,?_⟩
  rintro⟨k,n⟩ X ⟨⟨hk,hnk⟩,hbX⟩;dsimp only at hk hnk ⊢;refine biE (fun hc=>?_) fun hc=>?_
  ·have hc:(k:Int)<(l.length:Int):=dT hc;have hkl:k<l.length:=by omega
   obtain⟨bp,op,rfl,hlp,hat⟩:=hl.at hkl;refine⟨k,rfl,hkl,zH.enc l[k],zH.len _,zm hbX (hat k hkl),nL hlp hbX.size,zn (X:=X) (v := .agg (zH.enc l[k]).toArray) k41 (zH.len _) rfl (Qn.2 fun u hu=>zH.one _ u hu) fun Y hbY fY sY=>?_⟩;have fY:Y.heap[X.heap.size]?=some (.cells (zH.enc l[k]).toArray 41 (0,0)):=fY;have c0:Y.cell? ⟨X.heap.size,0+0,none⟩=some (u8 l[k].op):=zc (za fY) (i:=0) rfl;have hwY:=zst hbX hbY;have fin1:(k+1<=l.length/\n+1<=k+1)/\Bw w Y:=⟨⟨hkl,by omega⟩,hwY⟩;have fin0:(k+1<=l.length/\n<=k+1)/\Bw w Y:=⟨⟨hkl,by omega⟩,hwY⟩;have lt:l.length-(k+1)<l.length-k:=by omega
   refine⟨_,c0,biE (fun h1=>?_) fun h1=>?_⟩
   ·exact brT (nxI (by omega) (nxI (by omega) ⟨(k+1,n+1),(cvE rfl rfl),fin1,lt⟩))
   ·refine⟨_,c0,biE (fun h2=>?_) fun h2=>?_⟩
    ·refine⟨_,c0,biE (fun h3=>?_) fun h3=>?_⟩
     ·exact nxI (by omega) (nxI (by omega) ⟨(k+1,n+1),(cvE rfl rfl),fin1,lt⟩)
     ·exact nxI (by omega) ⟨(k+1,n),(cvE rfl rfl),fin0,lt⟩
    ·exact brF (nxI (by omega) ⟨(k+1,n),(cvE rfl rfl),fin0,lt⟩)
  ·exact⟨n,(cvE rfl rfl),hbX⟩
 rintro n X hbX;refine biE (fun h1=>?_) fun h1=>?_
 ·exact⟨⟨_,rfl⟩,hbX⟩
 ·exact⟨⟨_,rfl⟩,hbX⟩
end
section
variable {w:Wd} {B:Nat} {pc:List Value} {p:Prg}
theorem zrR (hB:B<=w.heap.size) (hP:PrgX B w pc p) :
  Calls PG 15 #[.agg pc.toArray] w fun e w'=>(∃ b:Bool,e = .returned (.bool b))/\Bw w w':=by
 refine jf 63 [.agg pc.toArray] (.c .p (.s .p (.s .p (.c .p .p)))) Tryz.func15 ?_;obtain⟨L,hL⟩:=nm (w.heap.size);have hpc:=hP.v.size;have hPl:=hP.v.len;obtain⟨q1,k1,q2,k2,q3,k3,q4,k4,hvs,_⟩:=hP.v.h;have hpc1:pc[1]?=some (.slice q1 p.locs.length k1):=by rw [hvs];rfl
 obtain⟨_,⟨p3,c3,h3,xs,hxs,zdm,hxr⟩,_⟩:=hP;have hxl:xs.length=p.threads.length:=by rw [<- hxs,QR]
 have hthr:=hPl.threads;refine⟨Unit,fun _=>⟨[(1,At0 L)],[]⟩,fun _ X=>X.heap[L]?=some (.cells pc.toArray 29 (0,0))/\Bw w X,⟨(),⟨.cons (by rw [hL];rfl) .nil,rfl⟩,by rw [hL];exact zz w _,(zba w _)⟩,?_⟩;rintro _ X ⟨f0,hbX⟩;have c3':X.cell? ⟨L,0+3,none⟩=some (.slice p3 p.threads.length c3):=zc (za f0) (i:=3) (by simpa using h3);have c1':X.cell? ⟨L,0+1,none⟩=some (.slice q1 p.locs.length k1):=zc (za f0) (i:=1) (by simpa using hpc1);refine⟨_,c3',biE (fun h1=>?_) fun h1=>?_⟩
 ·exact brT ⟨⟨_,rfl⟩,hbX⟩
 have h1:¬ (3:Int)<(p.threads.length:Int):=dF h1;refine⟨_,c1',biE (fun h2=>?_) fun h2=>?_⟩
 ·exact⟨⟨_,rfl⟩,hbX⟩
 refine⟨Nat,fun n=>⟨[(3,i64 (n:Nat))],[]⟩,fun n X=>Bw w X,?_,?_⟩
 ·refine⟨_,c3',?_⟩;refine⟨Nat×Nat,fun s=>⟨[(3,i64 (s.2:Nat)),(19,.slice p3 p.threads.length c3),(20,i64 p.threads.length),(21,i64 (s.1:Nat))],[]⟩,fun s Y=>(s.1<=p.threads.length/\s.2<=5*s.1)/\Bw w Y,fun s=>p.threads.length-s.1,(0,0),
   (cvE rfl rfl),⟨⟨Gc _,UZ _⟩,hbX⟩,?_⟩
  clear c3' c1' f0 hbX;rintro⟨m,n⟩ Y ⟨⟨hm,hnm⟩,hbY⟩;dsimp only at hm hnm ⊢;refine biE (fun hc=>?_) fun hc=>?_
  ·have hc:(m:Int)<(p.threads.length:Int):=dT hc;have hmt:m<p.threads.length:=by omega
   have hmx:m<xs.length:=by omega
   obtain⟨b3,o3,hp3,hb3,hat3⟩:=zd1 (zdm.below (hbY.mono hB)) hmx;have hB2:b3<Y.heap.size:=nL hb3 (UP hB hbY.size);have e3:some (Value.slice p3 p.threads.length c3)=some (Value.slice (some ⟨b3,o3,none⟩) p.threads.length c3):=by rw [hp3]
   subst hp3;refine⟨m,rfl,hmt,zg3 xs[m],by have:=zc (hat3 m hmx) (i:=0) (v:=zg3 xs[m]) rfl;exact this,?_⟩;obtain⟨hrm,hrb⟩:=hxr _ (gM hmx);have hsl:SlR zH Y xs[m].2.1 xs[m].1:=(hrm.below (hbY.mono hB)).slr (UP hB hbY.size);obtain⟨l,hl⟩:=nm (xs[m].1);obtain⟨ql,hql⟩:=nm (xs[m].2.1);obtain⟨cl,hcl⟩:=nm (xs[m].2.2);have hv:zg3 xs[m] = .slice ql l.length cl:=by rw [hl,hql,hcl];rfl
   rw [<- hl,<- hql] at hsl;rw [hv];refine biE (fun h5=>?_) fun h5=>?_
   ·exact brT ⟨⟨_,rfl⟩,hbY⟩
   have h5:¬ (5:Int)<(l.length:Int):=dF h5;have hl5:l.length<=5:=by omega
   refine cmo (zrS hsl (by omega)) ?_;rintro e Z ⟨⟨b,rfl⟩,hbZ⟩;have hwZ:=zst hbY hbZ;have hslZ:=hsl.below hbZ;refine biE (fun h6=>?_) fun h6=>?_
   ·exact⟨⟨_,rfl⟩,hwZ⟩
   refine⟨Nat×Nat,fun s=>⟨[(3,i64 (s.2:Nat)),(19,.slice (some ⟨b3,o3,none⟩) p.threads.length c3),(20,i64 p.threads.length),(21,i64 (m:Nat)),(33,.slice ql l.length cl),(34,i64 l.length),(35,i64 (s.1:Nat))],[]⟩,fun s V=>(s.1<=l.length/\s.2<=5*m+s.1)/\Bw Z V,fun s=>l.length-s.1,(0,n),
    (cvE rfl rfl),⟨⟨Gc _,by show n<=5*m+0;omega⟩,Ge _ _⟩,?_⟩
   rintro⟨k,n2⟩ V ⟨⟨hk,hn2⟩,hbV⟩;dsimp only at hk hn2 ⊢;refine biE (fun hc=>?_) fun hc=>?_
   ·have hc:(k:Int)<(l.length:Int):=dT hc;have hkl:k<l.length:=(by omega);obtain⟨bp,op,hqe,hlp,hat⟩:=hslZ.at hkl;subst hqe;refine⟨k,rfl,hkl,zH.enc l[k],zH.len _,zm hbV (hat k hkl),nL hlp hbV.size,zn (X:=V) (v := .agg (zH.enc l[k]).toArray) k41 (zH.len _) rfl (Qn.2 fun u hu=>zH.one _ u hu) fun U hbU fU sU=>?_⟩;have fU:U.heap[V.heap.size]?=some (.cells (zH.enc l[k]).toArray 41 (0,0)):=fU;have c0:U.cell? ⟨V.heap.size,0+0,none⟩=some (u8 l[k].op):=zc (za fU) (i:=0) rfl;have hZU:=zst hbV hbU;have fin1:(k+1<=l.length/\n2+1<=5*m+(k+1))/\Bw Z U:=⟨⟨hkl,by omega⟩,hZU⟩;have fin0:(k+1<=l.length/\n2<=5*m+(k+1))/\Bw Z U:=⟨⟨hkl,by omega⟩,hZU⟩;have lt:l.length-(k+1)<l.length-k:=(by omega);refine⟨_,c0,biE (fun h7=>?_) fun h7=>?_⟩
    ·exact brT (brT (nxI (by omega) (nxI (by omega) ⟨(k+1,n2+1),(cvE rfl rfl),fin1,lt⟩)))
    ·refine⟨_,c0,biE (fun h8=>?_) fun h8=>?_⟩
     ·exact brT (nxI (by omega) (nxI (by omega) ⟨(k+1,n2+1),(cvE rfl rfl),fin1,lt⟩))
     ·refine⟨_,c0,biE (fun h9=>?_) fun h9=>?_⟩
      ·refine⟨_,c0,biE (fun h=>?_) fun h=>?_⟩
       ·exact nxI (by omega) (nxI (by omega) ⟨(k+1,n2+1),(cvE rfl rfl),fin1,lt⟩)
       ·exact nxI (by omega) ⟨(k+1,n2),(cvE rfl rfl),fin0,lt⟩
      ·exact brF (nxI (by omega) ⟨(k+1,n2),(cvE rfl rfl),fin0,lt⟩)
   ·exact nxI (by omega) ⟨(m+1,n2),(cvE rfl rfl),⟨⟨hmt,by show n2<=5*(m+1);omega⟩,(zst hwZ hbV)⟩,zdc (by omega)⟩
  ·exact⟨n,(cvE rfl rfl),hbY⟩
 rintro n Y hbY;exact⟨⟨_,rfl⟩,hbY⟩
theorem zrL (hB:B<=w.heap.size) (hP:PrgX B w pc p) (hG:GlobE w) :
  Calls PG 9 #[.agg pc.toArray] w fun e w'=>((∃ V,zcz p=true/\zc2 p V 300/\∃ (xs:List zcC) (q:OA) (c:Nat),e = .returned (.tuple #[.slice q xs.length c,.bool true])/\xs.map (·.1)=qa p V/\OwnS exE 55 w.heap.size w' q c xs/\∀ x∈xs,OwnS evE 60 w.heap.size w' x.2.1 x.2.2 x.1.ev)\/e = .returned (.tuple #[.slice none 0 0,.bool false]))/\Bw w w':=by
 refine jf 22 [.agg pc.toArray] (.c .p (.s .p (.s .p .p))) Tryz.func9 ?_;obtain⟨L,hL⟩:=nm (w.heap.size);have hpc:=hP.v.size;refine⟨Unit,fun _=>⟨[(1,At0 L)],[]⟩,fun _ X=>X.heap[L]?=some (.cells pc.toArray 29 (0,0))/\Bw w X,⟨(),⟨.cons (by rw [hL];rfl) .nil,rfl⟩,by rw [hL];exact zz w _,(zba w _)⟩,?_⟩;rintro _ X ⟨f0,hbX⟩;refine⟨pc,hpc,za f0,hlt f0,cmo (zrR (UP hB hbX.size) (hP.below (hbX.mono hB))) ?_⟩;rintro e Y ⟨⟨b,rfl⟩,hbY⟩;have hwY:=zst hbX hbY;have f0Y:=zb hbY f0
 cases b with
 | false =>
  exact brT (brT ⟨.inr rfl,hwY⟩)
 | true =>
  refine brF ⟨pc,hpc,za f0Y,hlt f0Y,cmo (ziL (UP hB hwY.size) (hP.v.below (hwY.mono hB)) (hG.c.below hwY)) ?_⟩;rintro e Z ⟨m,rfl,hm,hbZ⟩;have hwZ:=zst hwY hbZ;have f0Z:=zb hbZ f0Y;refine biE (fun h=>?_) fun h=>?_
  ·exact⟨.inr rfl,hwZ⟩
  have hm0:m=0:=by
   have h2:(!decide ((m:Int)=0))=false:=h;simpa using h2
  have hok:=hm.1 hm0;refine⟨pc,hpc,za f0Z,hlt f0Z,cmo (zg0 (most:=300) (UP hB hwZ.size) (hP.below (hwZ.mono hB)) (hG.below hwZ) hok (by decide) fun V _=>zgU (zc7 hok)) ?_⟩;rintro e U ⟨(⟨V,hco,xs,q,c,rfl,hxs,oX,oE⟩ | ⟨_,rfl⟩),hbU⟩
  ·exact⟨.inl ⟨V,hok,hco,xs,q,c,rfl,hxs,oX.lower hwZ.size,fun x hx=>(oE x hx).lower hwZ.size⟩,(zst hwZ hbU)⟩
  ·exact⟨.inr rfl,(zst hwZ hbU)⟩
end
def chR (Rs:List (List (List Nat))) (ds:List Nat) (j:Nat):List Nat:=(Rs.getD j []).getD (ds.getD j 0) []
theorem zqH (R:List (List Nat)) (Rs:List (List (List Nat))) (ds:List Nat):chR (R::Rs) ds 0=R.getD (ds.headD 0) []:=by
 cases ds <;> rfl
theorem zfn (R:List (List Nat)) (Rs:List (List (List Nat))) (ds:List Nat) (j:Nat):chR (R::Rs) ds (j+1)=chR Rs ds.tail j:=by
 cases ds with
 | nil=>show (Rs.getD j []).getD (([]:List Nat).getD (j+1) 0) []=(Rs.getD j []).getD (([]:List Nat).getD j 0) [];rfl
 | cons d ds=>rfl
theorem zeu (ev:List Ev):∀ (Rs:List (List (List Nat))) (l:Nat) (ds:List Nat) (p:RelD×(Nat->UInt8)),(∀ j,j<Rs.length->(chR Rs ds j).Nodup)->(∀ i j j',j<Rs.length->j'<Rs.length->i∈chR Rs ds j->i∈chR Rs ds j'->j=j') ->
  (coG ev l Rs ds p).1.n=p.1.n/\∀ i j,zJ (coG ev l Rs ds p).1 i j=true↔(∃ k,k<Rs.length/\i∈chR Rs ds k/\j∈twl (chR Rs ds k).reverse i)\/((∀ k,k<Rs.length->i ∉ chR Rs ds k)/\zJ p.1 i j=true)
 | [],l,ds,p,_,_=>⟨rfl,fun i j=>⟨fun h => .inr ⟨fun k hk=>Gt hk (Ue _),h⟩,fun h=>by
   rcases h with ⟨k,hk,_⟩ | h
   ·exact Gt hk (Ue _)
   ·exact h.2⟩⟩
 | R::Rs,l,ds,p,hn,hd=>by
  obtain⟨q,hq⟩:=nm ((j4 (R.getD (ds.headD 0) []) p.1,upd p.2 l (ev.getD ((R.getD (ds.headD 0) []).getLastD 0) ev0).v));have e:coG ev l (R::Rs) ds p=coG ev (l+1) Rs ds.tail q:=by rw [hq];rfl
  obtain⟨h1,h2⟩:=zeu ev Rs (l+1) ds.tail q (fun j hj=>by rw [<- zfn R];exact hn (j+1) (by rw [Qw];omega)) (fun i j j' hj hj' a b=>by
   rw [<- zfn R] at a b;have:=hd i (j+1) (j'+1) (by rw [Qw];omega) (by rw [Qw];omega) a b;omega)
  have hn0:=hn 0 (by rw [Qw];omega);rw [e];refine⟨h1.trans (by rw [hq];rfl),fun i j=>?_⟩;have hb:zJ q.1 i j=if i∈chR (R::Rs) ds 0 then decide (j∈twl (chR (R::Rs) ds 0).reverse i) else zJ p.1 i j:=by
   rw [hq,<- zqH R Rs ds];unfold zJ j4;show (zgv (chR (R::Rs) ds 0).reverse p.1.to 0 i).testBit j=_;rw [zgu _ _ _ ((List.reverse_perm _).nodup_iff.2 hn0),QH,Uy];by_cases h:i∈chR (R::Rs) ds 0
   ·rw [Gs h,Gs (List.mem_reverse.2 h)]
   ·rw [Gr h,Gr fun h2=>h (List.mem_reverse.1 h2)]
  rw [h2,hb];constructor
  ·rintro (⟨k,a1,a2,a3⟩ | ⟨a1,a2⟩)
   ·rw [<- zfn R] at a2 a3;exact .inl ⟨k+1,by rw [Qw];omega,a2,a3⟩
   ·by_cases h:i∈chR (R::Rs) ds 0
    ·rw [Gs h] at a2;exact .inl ⟨0,by rw [Qw];omega,h,dT a2⟩
    ·rw [Gr h] at a2;refine .inr ⟨fun k hk=>?_,a2⟩
     cases k with
     | zero=>exact h
     | succ k=>rw [zfn];exact a1 k (by rw [Qw] at hk;omega)
  ·rintro (⟨k,a1,a2,a3⟩ | ⟨a1,a2⟩)
   ·cases k with
    | zero =>
     refine .inr ⟨fun k hk h=>?_,by rw [Gs a2];exact Uv a3⟩;rw [<- zfn R] at h;have:=hd i 0 (k+1) (by rw [Qw];omega) (by rw [Qw];omega) a2 h;omega
    | succ k =>
     rw [zfn] at a2 a3;exact .inl ⟨k,by rw [Qw] at a1;omega,a2,a3⟩
   ·refine .inr ⟨fun k hk h=>?_,?_⟩
    ·rw [<- zfn R] at h;exact a1 (k+1) (by rw [Qw];omega) h
    ·rw [Gr (a1 0 (by rw [Qw];omega))];exact a2
theorem zl3 (x:ExD):∀ (Rs:List (List (List Nat))) (l:Nat) (ds:List Nat) (p:RelD×(Nat->UInt8)),(∀ j,j<Rs.length->chR Rs ds j=zQ x (l+j))->coG x.ev l Rs ds p=znL x Rs.length l p
 | [],l,ds,p,_=>rfl
 | R::Rs,l,ds,p,h=>by
  have h0:=h 0 (by rw [Qw];omega);rw [zqH,UO] at h0;show coG x.ev (l+1) Rs ds.tail (j4 (R.getD (ds.headD 0) []) p.1,upd p.2 l (zdp x.ev (R.getD (ds.headD 0) [])))=znL x Rs.length (l+1) (j4 (zQ x l) p.1,upd p.2 l (zdp x.ev (zQ x l)));rw [h0];refine zl3 x Rs (l+1) ds.tail _ fun j hj=>?_;rw [<- zfn R,h (j+1) (by rw [Qw];omega)];congr 1;omega
theorem ziW:∀ {s:List Nat},s.Nodup->s.Pairwise fun a b=>a∈twl s b
 | [],_ => .nil
 | y::s,h=>by
  have h2:=QY.1 h;refine List.pairwise_cons.2 ⟨fun b hb=>?_,?_⟩
  ·rw [zcF,Gr (fun e=>h2.1 (by rw [e];exact hb))];exact KD
  ·refine List.Pairwise.imp_of_mem ?_ (ziW h2.2);intro a b ha hb hab;rw [zcF,Gr (fun e=>h2.1 (by rw [e];exact hb))];exact JZ _ hab
theorem zlF {key:Nat->Nat}:∀ {s:List Nat},s.Pairwise (fun a b=>key a<key b)->∀ a b,a∈s->b∈s->a≠b->key a≠key b
 | [],_,a,b,ha,_,_=>by cases ha
 | y::s,h,a,b,ha,hb,hne=>by
  have h2:=List.pairwise_cons.1 h;rcases UF.1 ha with e | e
  ·rcases UF.1 hb with e2 | e2
   ·exact Gt (e.trans e2.symm) hne
   ·have:=h2.1 b e2;rw [e];omega
  ·rcases UF.1 hb with e2 | e2
   ·have:=h2.1 a e;rw [e2];omega
   ·exact zlF h2.2 a b e e2 hne
theorem zmd {key:Nat->Nat}:∀ {a b:List Nat},a.Pairwise (fun x y=>key x<key y)->b.Pairwise (fun x y=>key x<key y)->(∀ x,x∈a↔x∈b)->a=b
 | [],[],_,_,_=>rfl
 | [],y::b,_,_,h=>Gt ((h y).2 (KD ..)) (by simp)
 | x::a,[],_,_,h=>Gt ((h x).1 (KD ..)) (by simp)
 | x::a,y::b,ha,hb,h=>by
  rw [List.pairwise_cons] at ha hb;have e:x=y:=by
   rcases UF.1 ((h x).1 (KD ..)) with e | h1
   ·exact e
   ·rcases UF.1 ((h y).2 (KD ..)) with e | h2
    ·exact e.symm
    ·have:=hb.1 x h1;have:=ha.1 y h2;omega
  subst e;rw [zmd ha.2 hb.2 fun z=>?_];have hz:=h z;rw [UF,UF] at hz;constructor
  ·intro hza;rcases hz.1 (.inr hza) with e | h2
   ·subst e;have:=ha.1 z hza;omega
   ·exact h2
  ·intro hzb;rcases hz.2 (.inr hzb) with e | h2
   ·subst e;have:=hb.1 z hzb;omega
   ·exact h2
theorem zf5 {x:ExD} {l:Nat} {rk:List Nat} (h48:x.ev.length<=48) (hp:rk.Perm (qb x l)) (hb:∀ i,i∈rk->∀ j,zJ x.co i j=decide (j∈twl rk.reverse i)):zQ x l=rk:=by
 have hwn:(qb x l).Nodup:=List.nodup_range.filter _;have hn:rk.Nodup:=hp.nodup_iff.2 hwn;have hrn:rk.reverse.Nodup:=(List.reverse_perm _).nodup_iff.2 hn;have hlt:∀ i,i∈rk->i<64:=fun i hi=>by have:=zeD (hp.subset hi);omega
 have key:rk.reverse.Pairwise fun a b=>zbw x a<zbw x b:=by
  refine List.Pairwise.imp_of_mem ?_ (ziW hrn);intro a b ha hb2 hab;have ha:=List.mem_reverse.1 ha;have hb2:=List.mem_reverse.1 hb2;show zbv (x.co.to a)<zbv (x.co.to b);rw [zjz,zjz];refine zkW (j:=a) (fun i _ hi=>?_) (hlt a ha) ?_ ?_
  ·have h1:zJ x.co a i=true:=hi;rw [hb a ha] at h1;show zJ x.co b i=true;rw [hb b hb2];exact Uv (zhg hab (dT h1))
  ·show zJ x.co a a=false;rw [hb a ha];exact Uk fun h=>(zfz h).2 rfl
  ·show zJ x.co b a=true;rw [hb b hb2];exact Uv hab
 have mem:∀ a,a∈sG x l↔a∈rk.reverse:=fun a=>zmo.trans (hp.mem_iff.symm.trans List.mem_reverse.symm);have e:sG x l=rk.reverse:=by
  exact zmd (key:=zbw x) (zfb (zh5 _ _) (znE l) fun a b ha hb2 hne=>zlF key a b ((mem a).1 ha) ((mem b).1 hb2) hne) key mem
 rw [znO,e,Kd]
section
variable {init:List UInt8} {Ps:List PathD} {m:MixD} {ds:List Nat}
theorem zcf (h:ChoiceW init Ps m):(zA m ds).ev.length<=48:=by
 rw [zfM,h.len];exact h.n
theorem ChoiceW.ch (h:ChoiceW init Ps m) (hd:ds∈z8 (zN m)):∀ l,l<init.length->(chR (m.wr.map zL) (ds.drop m.rs.length) l).Perm (qb m.base l)/\(chR (m.wr.map zL) (ds.drop m.rs.length) l).headD 48=l:=by
 intro l hl;obtain⟨h1,h2⟩:=zaV hd;obtain⟨w1,w2⟩:=h.wr;have hlw:l<m.wr.length:=by omega
 have hw:m.wr[l]=qb m.base l:=by
  have:=w2 l hl;rw [gDe,gE hlw] at this;exact this
 have hs:(zN m)[m.rs.length+l]?=some (zL (qb m.base l)).length:=by
  unfold zN;rw [Jo (by rw [QR];omega),QR,JA,KY,gE hlw,hw];rfl
 have hlen:m.rs.length+l<ds.length:=by rw [h1];exact (Jt.1 hs).1
 have hdl:=h2 _ _ _ hs (gE hlen);have e1:(m.wr.map zL).getD l []=zL (qb m.base l):=by
  rw [gDe,KY,gE hlw,hw];rfl
 have e2:(ds.drop m.rs.length).getD l 0=ds[m.rs.length+l]:=by
  rw [gDe,KA,gE hlen];rfl
 have e3:chR (m.wr.map zL) (ds.drop m.rs.length) l=(zL (qb m.base l))[ds[m.rs.length+l]]:=by
  unfold chR;rw [e1,e2,gDe,gE hdl];rfl
 have hm:chR (m.wr.map zL) (ds.drop m.rs.length) l∈zL (qb m.base l):=by rw [e3];exact gM hdl
 obtain⟨g1,g2⟩:=h.head hl;have h48:(qb m.base l).length<=48:=by
  have:=zfw m.base l;have:=h.n;have:=h.len;omega
 obtain⟨r1,r2⟩:=zhu g1 h48 hm;exact⟨r1,r2.trans g2⟩
theorem ChoiceW.chx (h:ChoiceW init Ps m) (hd:ds∈z8 (zN m)):(∀ j,j<(m.wr.map zL).length->(chR (m.wr.map zL) (ds.drop m.rs.length) j).Nodup)/\∀ i j j',j<(m.wr.map zL).length->j'<(m.wr.map zL).length->i∈chR (m.wr.map zL) (ds.drop m.rs.length) j->i∈chR (m.wr.map zL) (ds.drop m.rs.length) j'->j=j':=by
 rw [QR,h.wr.1];refine⟨fun j hj=>(h.ch hd j hj).1.nodup_iff.2 (List.nodup_range.filter _),fun i j j' hj hj' a b=>?_⟩;have a:=(h.ch hd j hj).1.subset a;have b:=(h.ch hd j' hj').1.subset b;exact (zfF.1 a).2.2.symm.trans (zfF.1 b).2.2
theorem ChoiceW.rank (h:ChoiceW init Ps m) (hd:ds∈z8 (zN m)) {l:Nat} (hl:l<init.length):zQ (zA m ds) l=chR (m.wr.map zL) (ds.drop m.rs.length) l:=by
 obtain⟨c1,c2⟩:=h.chx hd;obtain⟨_,hb⟩:=zeu m.base.ev (m.wr.map zL) 0 (ds.drop m.rs.length) (m.base.co,m.base.mem) c1 c2;refine zf5 (zcf h) (h.ch hd l hl).1 fun i hi j=>?_;have e:zJ (zA m ds).co i j=zJ (coG m.base.ev 0 (m.wr.map zL) (ds.drop m.rs.length) (m.base.co,m.base.mem)).1 i j:=rfl;rw [e,Bool.eq_iff_iff,hb,dE];have hlw:l<(m.wr.map zL).length:=by rw [QR,h.wr.1];exact hl
 constructor
 ·rintro (⟨k,a1,a2,a3⟩ | ⟨a1,a2⟩)
  ·have:=c2 i k l a1 hlw a2 hi;rw [<- this];exact a3
  ·exact Gt hi (a1 l hlw)
 ·exact fun hj => .inl ⟨l,hlw,hi,hj⟩
theorem ChoiceW.res (h:ChoiceW init Ps m) (hd:ds∈z8 (zN m)):((zA m ds).co,(zA m ds).mem)=znL (zA m ds) init.length 0 (⟨(zA m ds).ev.length,fun _=>0⟩,fun _=>0):=by
 have e:=zl3 (zA m ds) (m.wr.map zL) 0 (ds.drop m.rs.length) (m.base.co,m.base.mem) fun j hj=>by
  rw [QR,h.wr.1] at hj;rw [UU,h.rank hd hj]
 obtain⟨_,b2,b3,_⟩:=zdk (init:=init) (Ps:=Ps);have e2:(m.base.co,m.base.mem)=((⟨(zA m ds).ev.length,fun _=>0⟩,fun _=>0):RelD×(Nat->UInt8)):=by
  rw [zfM,h.len,h.base,b2,b3];rfl
 rw [QR,h.wr.1] at e;show coG (zA m ds).ev 0 (m.wr.map zL) (ds.drop m.rs.length) (m.base.co,m.base.mem)=_;rw [e,e2]
theorem zf3 (a:RelD):jp a a=true:=by
 unfold jp;rw [Uv rfl,UB,Qn];exact fun i _=>Uv rfl
theorem ChoiceW.co (h:ChoiceW init Ps m) (hd:ds∈z8 (zN m)):zah (zA m ds) init.length=true:=by
 unfold zah;have e:=(zjS (x:=zA m ds) init.length 0 (⟨(zA m ds).ev.length,fun _=>0⟩,fun _=>0) _).2 ⟨fun k _ hk=>by
  rw [h.rank hd (by omega)];exact (h.ch hd k (by omega)).2,h.res hd⟩
 rw [e];dsimp only;rw [zf3,UB,Qn];exact fun l _=>Uv rfl
end
theorem zb2 {r:RelD} {n:Nat} (hn:r.n=n) (h48:n<=48) (h:∀ i j,i<48->zJ r i j=true->i<n/\j<n):RelOk n r:=by
 refine .of hn h48 h fun i hi=>QD fun hge=>?_;obtain⟨j,hj1,hj2⟩:=Ja hge;have:=(h i j hi hj2).2;omega
theorem zlz (ev:List Ev) {i j:Nat}:zJ (poR ev) i j=true↔∃ e,ev[i]?=some e/\e.th ≠ -1/\i<j/\j<ev.length/\(ev.getD j ev0).th=e.th:=by
 unfold zJ poR;show (zbK ev i).testBit j=true↔_;unfold zbK
 cases he:ev[i]? with
 | none=>simp
 | some e =>
  have hi:i<ev.length:=(Jt.1 he).1;dsimp only;by_cases h1:e.th = -1
  ·rw [Gs h1];simp [h1]
  ·rw [Gr h1,zme];rw [Qx];constructor
   ·rintro (h | ⟨m,h2,h3,h4⟩)
    ·simp at h
    ·rw [zhK] at h4;exact⟨e,rfl,h1,by omega,by omega,by rw [h3];exact h4⟩
   ·rintro⟨e',he',_,h2,h3,h4⟩
    cases he'
    refine .inr ⟨j-(i+1),by omega,by omega,?_⟩;rw [zhK,show i+1+(j-(i+1))=j by omega];exact h4
theorem zlq:∀ (rs:List (Nat×List Nat)) (ds:List Nat) (f:Nat->Nat) (i j:Nat),(rfF rs ds f i).testBit j=true↔(f i).testBit j=true\/∃ (t:Nat) (r:Nat×List Nat),rs[t]?=some r/\i=r.2.getD (ds.getD t 0) 0/\j=r.1
 | [],ds,f,i,j=>⟨fun h => .inl h,fun h=>by
   rcases h with h | ⟨t,r,h,_⟩
   ·exact h
   ·simp at h⟩
 | (r,s)::rs,ds,f,i,j=>by
  show (rfF rs ds.tail (upd f (s.getD (ds.headD 0) 0) (f (s.getD (ds.headD 0) 0)|||2^r)) i).testBit j=true↔_;rw [zlq rs];have ht:∀ t,ds.tail.getD t 0=ds.getD (t+1) 0:=fun t=>by cases ds <;> rfl
  have h0:ds.headD 0=ds.getD 0 0:=by cases ds <;> rfl
  have hu:(upd f (s.getD (ds.headD 0) 0) (f (s.getD (ds.headD 0) 0)|||2^r) i).testBit j=true↔(f i).testBit j=true\/(i=s.getD (ds.getD 0 0) 0/\j=r):=by
   rw [h0];by_cases e:i=s.getD (ds.getD 0 0) 0
   ·rw [e,zM,Uu,zae,QK,dE];simp
   ·rw [qp _ _ e];exact⟨.inl,fun h=>h.resolve_right fun h2=>e h2.1⟩
  rw [hu];constructor
  ·rintro ((h | ⟨h1,h2⟩) | ⟨t,q,h1,h2,h3⟩)
   ·exact .inl h
   ·exact .inr ⟨0,(r,s),rfl,h1,h2⟩
   ·exact .inr ⟨t+1,q,h1,by rw [<- ht];exact h2,h3⟩
  ·rintro (h | ⟨t,q,h1,h2,h3⟩)
   ·exact .inl (.inl h)
   ·cases t with
    | zero =>
     have h1:some (r,s)=some q:=h1
     cases h1
     exact .inl (.inr ⟨h2,h3⟩)
    | succ t=>exact .inr ⟨t,q,h1,by rw [ht];exact h2,h3⟩
theorem zd8 (b:Nat):∀ (ps:List (Nat×Nat)) (f:Nat->Nat) (i j:Nat),(zeN b ps f i).testBit j=true↔(f i).testBit j=true\/∃ p∈ps,i=b+p.1/\j=b+p.2
 | [],f,i,j=>⟨fun h => .inl h,fun h=>by
   rcases h with h | ⟨p,h,_⟩
   ·exact h
   ·cases h⟩
 | p::ps,f,i,j=>by
  show (zeN b ps (upd f (b+p.1) (f (b+p.1)|||2^(b+p.2))) i).testBit j=true↔_;rw [zd8 b ps];have hu:(upd f (b+p.1) (f (b+p.1)|||2^(b+p.2)) i).testBit j=true↔(f i).testBit j=true\/(i=b+p.1/\j=b+p.2):=by
   by_cases e:i=b+p.1
   ·rw [e,zM,Uu,zae,QK,dE];simp
   ·rw [qp _ _ e];simp [e]
  rw [hu];constructor
  ·rintro ((h | h) | ⟨q,hq,h⟩)
   ·exact .inl h
   ·exact .inr ⟨p,KD,h⟩
   ·exact .inr ⟨q,JZ _ hq,h⟩
  ·rintro (h | ⟨q,hq,h⟩)
   ·exact .inl (.inl h)
   ·rcases UF.1 hq with e | e
    ·rw [e] at h;exact .inl (.inr h)
    ·exact .inr ⟨q,e,h⟩
theorem getD_some {L:List Nat} {k:Nat} (h:k<L.length):L[k]?=some (L.getD k 0):=by
 rw [gDe,gE h];rfl
theorem zpN {L:List Nat} {k v:Nat} (h:L[k]?=some v):L.getD k 0=v:=by
 rw [gDe,h];rfl
def zdt (sel:PathD->List (Nat×Nat)):Nat->List PathD->Nat->Nat->Prop
 | _,[],_,_=>False
 | b,P::Ps,i,j=>(∃ p∈sel P,i=b+p.1/\j=b+p.2)\/zdt sel (b+P.ev.length) Ps i j
theorem zfS (x:ExD) (k:Nat) (P:PathD):(za3 x k P).ev.length=x.ev.length+P.ev.length:=by
 show (x.ev++jK k P.ev).length=_;rw [lap];unfold jK;rw [QR]
theorem zoY:∀ (Ps:List PathD) (k:Nat) (x:ExD) (i j:Nat),zJ (asR k Ps x).dt i j=true↔zJ x.dt i j=true\/zdt PathD.data x.ev.length Ps i j
 | [],k,x,i,j=>⟨fun h => .inl h,fun h=>h.elim id False.elim⟩
 | P::Ps,k,x,i,j=>by
  show zJ (asR (k+1) Ps (za3 x k P)).dt i j=true↔_;rw [zoY Ps,zfS];show ((zeN x.ev.length P.data x.dt.to i).testBit j=true\/_)↔_;rw [zd8,or_assoc];rfl
theorem zoZ:∀ (Ps:List PathD) (k:Nat) (x:ExD) (i j:Nat),zJ (asR k Ps x).ct i j=true↔zJ x.ct i j=true\/zdt PathD.ctrl x.ev.length Ps i j
 | [],k,x,i,j=>⟨fun h => .inl h,fun h=>h.elim id False.elim⟩
 | P::Ps,k,x,i,j=>by
  show zJ (asR (k+1) Ps (za3 x k P)).ct i j=true↔_;rw [zoZ Ps,zfS];show ((zeN x.ev.length P.ctrl x.ct.to i).testBit j=true\/_)↔_;rw [zd8,or_assoc];rfl
theorem zoX:∀ (Ps:List PathD) (k:Nat) (x:ExD) (i j:Nat),zJ (asR k Ps x).rm i j=true↔zJ x.rm i j=true\/zdt PathD.rmw x.ev.length Ps i j
 | [],k,x,i,j=>⟨fun h => .inl h,fun h=>h.elim id False.elim⟩
 | P::Ps,k,x,i,j=>by
  show zJ (asR (k+1) Ps (za3 x k P)).rm i j=true↔_;rw [zoX Ps,zfS];show ((zeN x.ev.length P.rmw x.rm.to i).testBit j=true\/_)↔_;rw [zd8,or_assoc];rfl
theorem ziD {sel:PathD->List (Nat×Nat)}:∀ (Ps:List PathD) (k b i j:Nat),(∀ P∈Ps,∀ p∈sel P,p.1<P.ev.length/\p.2<P.ev.length)->zdt sel b Ps i j->i<b+(zbB k Ps).length/\j<b+(zbB k Ps).length
 | [],k,b,i,j,h,hd=>hd.elim
 | P::Ps,k,b,i,j,h,hd=>by
  have e:(zbB k (P::Ps)).length=P.ev.length+(zbB (k+1) Ps).length:=by
   show (jK k P.ev++zbB (k+1) Ps).length=_;rw [lap];unfold jK;rw [QR]
  rw [e];rcases hd with ⟨p,hp,h1,h2⟩ | hd
  ·have:=h P KD p hp;omega
  ·have:=ziD Ps (k+1) _ i j (fun Q hQ=>h Q (JZ _ hQ)) hd;omega
section
variable {init:List UInt8} {Ps:List PathD} {m:MixD} {ds:List Nat}
theorem zcE (n i j:Nat):¬ zJ (zcB n) i j=true:=fun h=>by
 have h:(0:Nat).testBit j=true:=h;simp at h
theorem zhU (h:∀ P∈Ps,PathW init.length P):(∀ i j,zJ (jU init Ps).dt i j=true↔zdt PathD.data init.length Ps i j)/\(∀ i j,zJ (jU init Ps).ct i j=true↔zdt PathD.ctrl init.length Ps i j)/\∀ i j,zJ (jU init Ps).rm i j=true↔zdt PathD.rmw init.length Ps i j:=by
 obtain⟨x0,hx0⟩:∃ x0:ExD,x0={ ex0 (za4 init.length Ps) with ev:=qB 0 init }:=⟨_,rfl⟩;have hl:x0.ev.length=init.length:=by rw [hx0];exact z4 init 0
 refine⟨fun i j=>?_,fun i j=>?_,fun i j=>?_⟩
 ·have:=zoY Ps 0 x0 i j;rw [hl] at this;show zJ (asR 0 Ps _).dt i j=true↔_;rw [<- hx0,this];exact⟨fun h=>h.resolve_left (by rw [hx0];exact zcE _ i j),.inr⟩
 ·have:=zoZ Ps 0 x0 i j;rw [hl] at this;show zJ (asR 0 Ps _).ct i j=true↔_;rw [<- hx0,this];exact⟨fun h=>h.resolve_left (by rw [hx0];exact zcE _ i j),.inr⟩
 ·have:=zoX Ps 0 x0 i j;rw [hl] at this;show zJ (asR 0 Ps _).rm i j=true↔_;rw [<- hx0,this];exact⟨fun h=>h.resolve_left (by rw [hx0];exact zcE _ i j),.inr⟩
theorem ChoiceW.rfb (h:ChoiceW init Ps m) (hd:ds∈z8 (zN m)) {i j:Nat}:zJ (zA m ds).rf i j=true↔∃ (t:Nat) (r:Nat×List Nat),m.rs[t]?=some r/\i∈r.2/\r.2[ds.getD t 0]?=some i/\j=r.1:=by
 obtain⟨h1,h2⟩:=zaV hd;obtain⟨b1,_⟩:=zdk (init:=init) (Ps:=Ps);have e:zJ (zA m ds).rf i j=(rfF m.rs ds m.base.rf.to i).testBit j:=rfl;rw [e,zlq];have z:¬ (m.base.rf.to i).testBit j=true:=by
  rw [h.base,b1];exact zcE _ i j
 have dig:∀ {t r},m.rs[t]?=some r->ds.getD t 0<r.2.length:=fun {t r} hr=>by
  have ht:=(Jt.1 hr).1;have hs:(zN m)[t]?=some r.2.length:=by
   unfold zN;rw [Js (by rw [QR];exact ht),KY,hr];rfl
  have hlen:t<ds.length:=by rw [h1];exact (Jt.1 hs).1
  rw [gDe,gE hlen];exact h2 _ _ _ hs (gE hlen)
 constructor
 ·rintro (h | ⟨t,r,g1,g2,g3⟩)
  ·exact Gt h z
  ·have hlt:=dig g1;have e2:r.2[ds.getD t 0]?=some i:=by
    rw [g2];exact getD_some hlt
   exact⟨t,r,g1,Ka e2,e2,g3⟩
 ·rintro⟨t,r,g1,_,g2,g3⟩;exact .inr ⟨t,r,g1,(zpN g2).symm,g3⟩
structure Rels6 (n:Nat) (x:ExD):Prop where
 po:RelOk n x.po
 rf:RelOk n x.rf
 co:RelOk n x.co
 dt:RelOk n x.dt
 ct:RelOk n x.ct
 rm:RelOk n x.rm
theorem ChoiceW.rels (h:ChoiceW init Ps m) (hd:ds∈z8 (zN m)):Rels6 (zA m ds).ev.length (zA m ds):=by
 have h48:=zcf (ds:=ds) h;obtain⟨b1,b2,b3,b4,b5,b6⟩:=zdk (init:=init) (Ps:=Ps);have hl:(zA m ds).ev.length=za4 init.length Ps:=by rw [zfM,h.len]
 have hn:((za4 init.length Ps:Nat):Int)=((zA m ds).ev.length:Nat):=by rw [hl]
 obtain⟨d1,d2,d3⟩:=zhU h.P;have hb:init.length+(zbB 0 Ps).length=(zA m ds).ev.length:=by
  rw [zfM,h.base,zbQ,lap,z4]
 refine⟨?_,?_,?_,?_,?_,?_⟩
 ·have e:(zA m ds).po=poR (zA m ds).ev:=by
   show m.base.po=poR m.base.ev;rw [h.base];rfl
  rw [e];refine zb2 rfl h48 fun i j _ hb=>?_;obtain⟨e,he,_,_,h3,_⟩:=(zlz _).1 hb;exact⟨(Jt.1 he).1,h3⟩
 ·refine zb2 (by show m.base.rf.n=_;rw [h.base,b1];exact hn) h48 fun i j _ hb=>?_;obtain⟨t,r,g1,g2,_,g3⟩:=(h.rfb hd).1 hb;obtain⟨s1,_,s3⟩:=h.src (Ka g1);exact⟨s3 i g2,by rw [g3];exact s1⟩
 ·obtain⟨c1,c2⟩:=h.chx hd;obtain⟨c0,hbits⟩:=zeu m.base.ev (m.wr.map zL) 0 (ds.drop m.rs.length) (m.base.co,m.base.mem) c1 c2;refine zb2 (by show (coG m.base.ev 0 (m.wr.map zL) (ds.drop m.rs.length) (m.base.co,m.base.mem)).1.n=_;rw [c0,h.base,b2];exact hn) h48 fun i j _ hb=>?_;have hb:zJ (coG m.base.ev 0 (m.wr.map zL) (ds.drop m.rs.length) (m.base.co,m.base.mem)).1 i j=true:=hb;rcases (hbits i j).1 hb with ⟨k,a1,a2,a3⟩ | ⟨_,a2⟩
  ·rw [QR,h.wr.1] at a1;have hp:=(h.ch hd k a1).1;exact⟨zeD (hp.subset a2),zeD (hp.subset (List.mem_reverse.1 (zfz a3).1))⟩
  ·rw [h.base,b2] at a2;exact Gt a2 (zcE _ i j)
 ·refine zb2 (by show m.base.dt.n=_;rw [h.base,b4];exact hn) h48 fun i j _ hb=>?_;have hb:zJ m.base.dt i j=true:=hb;rw [h.base,d1] at hb;have:=ziD Ps 0 _ i j (fun P hP p hp=>(h.P P hP).b.dt p hp) hb;omega
 ·refine zb2 (by show m.base.ct.n=_;rw [h.base,b5];exact hn) h48 fun i j _ hb=>?_;have hb:zJ m.base.ct i j=true:=hb;rw [h.base,d2] at hb;have:=ziD Ps 0 _ i j (fun P hP p hp=>(h.P P hP).b.ct p hp) hb;omega
 ·refine zb2 (by show m.base.rm.n=_;rw [h.base,b6];exact hn) h48 fun i j _ hb=>?_;have hb:zJ m.base.rm i j=true:=hb;rw [h.base,d3] at hb;have:=ziD Ps 0 _ i j (fun P hP p hp=>(h.P P hP).b.rm p hp) hb;omega
end
theorem zl7 {p:Prg} {V:List UInt8} (hO:OkG p) {x:ExD} (hx:x∈qa p V):∃ Ps m ds,ChoiceW p.init Ps m/\m∈z6 p V/\js m 1≠0/\ds∈z8 (zN m)/\x=zA m ds:=by
 obtain⟨m,hm,hx⟩:=List.mem_flatMap.1 hx;unfold qA at hx
 split at hx
 ·cases hx
 ·rename_i h1;obtain⟨d,_,h⟩:=zdi hO hm;obtain⟨ds,hds,rfl⟩:=UM.1 hx;exact⟨_,m,ds,h,hm,h1,hds,rfl⟩
structure GoodX (k:Nat) (x:ExD):Prop where
 n:x.ev.length<=48
 k1:1<=k
 k6:k<=6
 kn:k<=x.ev.length
 ini:qT x.ev=k
 po:x.po=poR x.ev
 rels:Rels6 x.ev.length x
 co:zah x k=true
 ev0:(evA x 0).k=2/\(evA x 0).l=0
 w8:∀ l,(qb x l).length<=8
theorem zhI:∀ (a b:List Ev),(∀ e∈a,e.th = -1)->(∀ e∈b,e.th ≠ -1)->qT (a++b)=a.length
 | [],b,_,hb=>by
  unfold qT
  cases b with
  | nil=>rfl
  | cons e b=>rw [QX,Ks,Gr (by simpa using hb e KD)]
 | e::a,b,ha,hb=>by
  rw [Qp,zkK,Gs (ha e KD),zhI a b (fun d hd=>ha d (JZ _ hd)) hb,Qw]
theorem zpO {n:Nat} (h:fct (n-1)<20001):n<=8:=by
 refine Nat.le_of_not_lt fun h9=>?_;have h1:fct 8<=fct (n-1):=zgJ (by omega);have h2:fct 8=40320:=rfl;omega
section
variable {init:List UInt8} {Ps:List PathD} {m:MixD} {ds:List Nat}
theorem ChoiceW.inits (h:ChoiceW init Ps m):qT m.base.ev=init.length:=by
 rw [h.base,zbQ,zhI,z4]
 ·intro e he;obtain⟨i,hi,rfl⟩:=Km he;rw [z4] at hi;have:=zaO init 0 hi;rw [gE (by rw [z4];exact hi)] at this;rw [Ui this]
 ·intro e he;obtain⟨P,hP,a,ha,t,_,_,rfl⟩:=zgM Ps 0 e he;show ((t:Nat):Int) ≠ -1;omega
theorem ChoiceW.good (h:ChoiceW init Ps m) (hd:ds∈z8 (zN m)) (h1:js m 1≠0) (hc:js m 20001<=20000):GoodX init.length (zA m ds):=by
 have hin:init.length<=m.base.ev.length:=by rw [h.len];exact zfU _ _
 have e0:=h.ini (i:=0) (by have:=h.i1;omega);refine⟨zcf h,h.i1,h.i6,hin,h.inits,?_,h.rels hd,h.co hd,?_,fun l=>?_⟩
 ·show m.base.po=poR m.base.ev;rw [h.base];rfl
 ·show (evA m.base 0).k=2/\(evA m.base 0).l=0;rw [e0];exact⟨rfl,rfl⟩
 ·show (qb m.base l).length<=8;by_cases hl:l<init.length
  ·have hw:=h.wr.2 l hl;have hlw:l<m.wr.length:=by have:=h.wr.1;omega
   have hm:qb m.base l∈m.wr:=by
    rw [<- hw,gDe,gE hlw];exact gM hlw
   exact zpO (zkN (fun w hw=>(h.w1 hw).1) (lim:=20001) (by decide) (by omega) h1 _ hm)
  ·have:qb m.base l=[]:=by
    refine Je.2 fun a ha=>?_;obtain⟨a1,a2,a3⟩:=zfF.1 ha;have hmem:evA m.base a∈(jU init Ps).ev:=by
     rw [<- h.base];unfold evA;rw [gDe,gE a1];exact gM a1
    have:=zey h.i6 h.P hmem (.inr (dT a2));omega
   rw [this];exact Gc _
end
theorem zk2 {p:Prg} {V:List UInt8} {most:Nat} (hO:OkG p) (hc:zc2 p V most) (hm:most<=20000) {x:ExD} (hx:x∈qa p V):GoodX p.init.length x:=by
 obtain⟨Ps,m,ds,h,hmm,h1,hd,rfl⟩:=zl7 hO hx;refine h.good hd h1 ?_;have h2:=hc.2.2;have:=zkH (f:=fun m=>js m 20001) hmm;omega
structure RightP (x:ExD):Prop where
 ev:jk x.ev (qT x.ev)=true
 rel:∀ r∈[x.po,x.rf,x.co,x.dt,x.ct,x.rm],r.n=x.ev.length/\okR r=true
 po:jp x.po (poR x.ev)=true
 rf:zad x=true
 co:zah x (qT x.ev)=true
section
variable {k:Nat} {x:ExD} {i:Nat}
structure SpW (y:ExD):Prop where
 w20:∀ l,(qb y l).length<=20
 po:zZ y.po.to
 rf:zZ y.rf.to
 co:zZ y.co.to
 dt:zZ y.dt.to
 ct:zZ y.ct.to
 rm:zZ y.rm.to
end
theorem zlY (L : Nat) (es : List Ev) (t : Int) (n : Nat) : ∀ (vs : List UInt8) (i : Nat), i + vs.length = L → zbz L i (qB i vs ++ es) t n = zbz L L es t n
  | [], i, h => by
    have : i = L := by simpa using h
    rw [this]; rfl
  | v :: vs, i, h => by
    rw [Qw] at h
    show zbz L i (⟨-1, 2, UInt8.ofNat i, v, 0, 0, 0⟩ :: (qB (i + 1) vs ++ es)) t n = _
    have step : zbz L i (⟨-1, 2, UInt8.ofNat i, v, 0, 0, 0⟩ :: (qB (i + 1) vs ++ es)) t n = zbz L (i + 1) (qB (i + 1) vs ++ es) t n := by
      conv => lhs; unfold zbz
      rw [Gs (by omega), Gs rfl]
    rw [step]
    exact zlY L es t n vs (i + 1) (by omega)
theorem zlX {L k : Nat} (hk : k < 4) (qr : List Ev) : ∀ (es : List Ev) (i j : Nat) (t : Int) (n : Nat), L ≤ i → (∀ q e, es[q]? = some e → zqu L (j + q) e) → j + es.length ≤ 24 → 0 ≤ t → ((t = k ∧ n = j) ∨ (j = 0 ∧ t < k)) →
    ∃ (t' : Int) (n' : Nat), zbz L i (jK k es ++ qr) t n = zbz L (i + es.length) qr t' n' ∧ 0 ≤ t' ∧ ((t' = k ∧ n' = j + es.length) ∨ (j = 0 ∧ es = [] ∧ t' < k))
  | [], i, j, t, n, hi, he, hj, h0, hs => ⟨t, n, rfl, h0, by
      rcases hs with ⟨a, b⟩ | ⟨a, b⟩
      · exact .inl ⟨a, b⟩
      · exact .inr ⟨a, rfl, b⟩⟩
  | e :: es, i, j, t, n, hi, he, hj, h0, hs => by
    rw [Qw] at hj
    obtain ⟨_, hp, hkd⟩ := he 0 e rfl
    rw [UO] at hp
    have hpn : e.p.toNat = j := by rw [hp, KL]; omega
    have htk : t ≤ k := by rcases hs with ⟨a, _⟩ | ⟨_, b⟩ <;> omega
    have ht' : (if t < (k : Int) then (k : Int) else t) = k := by split <;> omega
    have hn' : (if t < (k : Int) then 0 else n) = j := by
      rcases hs with ⟨a, b⟩ | ⟨a, b⟩
      · rw [Gr (by omega)]; exact b
      · rw [Gs b]; exact a.symm
    obtain ⟨t2, n2, h1, h2, h3⟩ := zlX (L := L) hk qr es (i + 1) (j + 1) k (j + 1) (by omega) (fun q d hq => by
      have h5 := he (q + 1) d hq
      have e5 : j + (q + 1) = j + 1 + q := by omega
      rw [e5] at h5
      exact h5) (by omega) (by omega) (.inl ⟨rfl, rfl⟩)
    refine ⟨t2, n2, ?_, h2, ?_⟩
    · rw [Qw, show i + (es.length + 1) = i + 1 + es.length by omega, ← h1]
      show zbz L i ({ e with th := (k : Int) } :: (jK k es ++ qr)) t n = _
      have step : zbz L i ({ e with th := (k : Int) } :: (jK k es ++ qr)) t n = if i < L then (if ({ e with th := (k : Int) } : Ev) = ⟨-1, 2, UInt8.ofNat i, e.v, 0, 0, 0⟩ then zbz L (i + 1) (jK k es ++ qr) t n else false) else if (k : Int) < t ∨ 4 ≤ (k : Int) then false else
          (if e.p.toNat = (if t < (k : Int) then 0 else n) then
            (if e.k = 1 ∨ e.k = 2 then (if e.l.toNat < L then zbz L (i + 1) (jK k es ++ qr) (if t < (k : Int) then (k : Int) else t) ((if t < (k : Int) then 0 else n) + 1) else false)
             else if e.k = 3 then (if e.l = 0 ∧ e.v = 0 then zbz L (i + 1) (jK k es ++ qr) (if t < (k : Int) then (k : Int) else t) ((if t < (k : Int) then 0 else n) + 1) else false) else false)
            else false) := rfl
      rw [step, Gr (by omega), Gr (by omega), hn', Gs hpn, ht']
      rcases hkd with ⟨a, b⟩ | ⟨a, b⟩
      · rw [Gs a, Gs b]
      · rw [Gr (by rw [a]; decide), Gs a, Gs b]
    · rcases h3 with ⟨a, b⟩ | ⟨a, _⟩
      · exact .inl ⟨a, by rw [Qw, b]; omega⟩
      · omega
theorem zgN {L : Nat} : ∀ (Ps : List PathD) (k i : Nat) (t : Int) (n : Nat), L ≤ i → (∀ P ∈ Ps, PathW L P) → k + Ps.length ≤ 4 → 0 ≤ t → (t < k ∨ (t = k ∧ n = 0)) → zbz L i (zbB k Ps) t n = true
  | [], k, i, t, n, _, _, _, _, _ => rfl
  | P :: Ps, k, i, t, n, hi, hP, hk, h0, hs => by
    rw [Qw] at hk
    have hw := hP P KD
    obtain ⟨t2, n2, h1, h2, h3⟩ := zlX (L := L) (k := k) (by omega) (zbB (k + 1) Ps) P.ev i 0 t n hi (fun q e hq => by rw [UU]; exact hw.ev q e hq) (by have := hw.n; omega) h0 (by
      rcases hs with a | ⟨a, b⟩
      · exact .inr ⟨rfl, a⟩
      · exact .inl ⟨a, b⟩)
    show zbz L i (jK k P.ev ++ zbB (k + 1) Ps) t n = true
    rw [h1]
    refine zgN Ps (k + 1) _ t2 n2 (by omega) (fun Q hQ => hP Q (JZ _ hQ)) (by omega) h2 (.inl ?_)
    rcases h3 with ⟨a, _⟩ | ⟨_, _, a⟩ <;> omega
section
variable {init : List UInt8} {Ps : List PathD} {m : MixD} {ds : List Nat}
theorem ChoiceW.evs (h : ChoiceW init Ps m) : jk m.base.ev init.length = true := by
  unfold jk
  rw [h.base, zbQ, zlY init.length _ 0 0 init 0 (UU _)]
  exact zgN Ps 0 _ 0 0 (UZ _) h.P (by have := h.p4; omega) (Int.le_refl _) (.inr ⟨rfl, rfl⟩)
theorem zjf (all : List Ev) (W : List (List Nat)) : ∀ (es : List Ev) (i j : Nat) (e : Ev), es[j]? = some e → e.k = 1 → ∃ (t : Nat) (s : List Nat), (zbs all W i es)[t]? = some (i + j, s)
  | [], i, j, e, h, _ => by simp at h
  | d :: es, i, 0, e, h, hk => by
    have e1 : d = e := by simpa using h
    subst e1
    unfold zbs
    rw [Gs hk]
    exact ⟨0, _, rfl⟩
  | d :: es, i, j + 1, e, h, hk => by
    obtain ⟨t, s, ht⟩ := zjf all W es (i + 1) j e (by simpa using h) hk
    rw [show i + 1 + j = i + (j + 1) by omega] at ht
    unfold zbs
    split
    · exact ⟨t + 1, s, ht⟩
    · exact ⟨t, s, ht⟩
theorem zls (all : List Ev) (W : List (List Nat)) : ∀ (es : List Ev) (i : Nat), (zbs all W i es).Pairwise (fun a b => a.1 < b.1) ∧ ∀ r ∈ zbs all W i es, i ≤ r.1
  | [], i => ⟨.nil, fun r h => by cases h⟩
  | d :: es, i => by
    obtain ⟨h1, h2⟩ := zls all W es (i + 1)
    unfold zbs
    split
    · refine ⟨List.pairwise_cons.2 ⟨fun r hr => ?_, h1⟩, fun r hr => ?_⟩
      · have := h2 r hr
        show i < r.1
        omega
      · rcases UF.1 hr with e | e
        · rw [e]; exact UZ _
        · have := h2 r e; omega
    · exact ⟨h1, fun r hr => by have := h2 r hr; omega⟩
theorem ChoiceW.rs_one (h : ChoiceW init Ps m) {t t' : Nat} {r r' : Nat × List Nat} (h1 : m.rs[t]? = some r) (h2 : m.rs[t']? = some r') (he : r.1 = r'.1) : t = t' := by
  have hp : m.rs.Pairwise (fun a b => a.1 < b.1) := by rw [h.m]; exact (zls _ _ _ _).1
  obtain ⟨l1, e1⟩ := Jt.1 h1
  obtain ⟨l2, e2⟩ := Jt.1 h2
  rcases Nat.lt_trichotomy t t' with g | g | g
  · have := List.pairwise_iff_getElem.1 hp t t' l1 l2 g
    rw [e1, e2] at this
    omega
  · exact g
  · have := List.pairwise_iff_getElem.1 hp t' t l2 l1 g
    rw [e1, e2] at this
    omega
theorem ChoiceW.rf (h : ChoiceW init Ps m) (hd : ds ∈ z8 (zN m)) : zad (zA m ds) = true := by
  have hr := h.rels hd
  have dig : ∀ {t r}, m.rs[t]? = some r → ds.getD t 0 < r.2.length := fun {t r} hr => by
    obtain ⟨h1, h2⟩ := zaV hd
    have ht := (Jt.1 hr).1
    have hs : (zN m)[t]? = some r.2.length := by
      unfold zN
      rw [Js (by rw [QR]; exact ht), KY, hr]; rfl
    have hlen : t < ds.length := by rw [h1]; exact (Jt.1 hs).1
    rw [Jn, Jw hlen]
    exact h2 _ _ _ hs (Jw hlen)
  refine (zqX hr.rf).2 ⟨fun a b ha hb hab => ?_, fun b hb hrb => ⟨?_, fun i j hi hj h1 h2 => ?_⟩⟩
  · obtain ⟨t, r, h1, h2, h3, h4⟩ := (h.rfb hd).1 hab
    obtain ⟨e, g1, g2, g3⟩ := h.rs (Ka h1)
    have hem : e ∈ (jU init Ps).ev := by rw [← h.base]; exact Ka g1
    have hel := zey h.i6 h.P hem (.inl g2)
    rw [g3, h.wr.2 _ hel] at h2
    obtain ⟨m1, m2⟩ := QW.1 h2
    obtain ⟨a1, a2, a3⟩ := zfF.1 m1
    have eb : evA (zA m ds) b = e := by
      show m.base.ev.getD b ev0 = e
      rw [h4, Jn, g1]; rfl
    have m2 : (evA m.base a).v = e.v := Qg m2
    refine ⟨a2, ?_, ?_, ?_⟩
    · unfold isR
      rw [eb]; exact Uv g2
    · rw [eb]
      exact Uj.1 a3
    · rw [eb]; exact m2
  · have hb : b < m.base.ev.length := hb
    have hev : m.base.ev[b]? = some (evA m.base b) := by
      unfold evA
      rw [Jn, Jw hb]; rfl
    have hk : (evA m.base b).k = 1 := Qg hrb
    obtain ⟨t, s, ht⟩ := zjf m.base.ev m.wr m.base.ev 0 b _ hev hk
    have ht : m.rs[t]? = some (0 + b, s) := by
      have e : m.rs = zbs m.base.ev m.wr 0 m.base.ev := by rw [h.m]; rfl
      rw [e]; exact ht
    rw [UU] at ht
    have hlt := dig ht
    have e2 : s[ds.getD t 0]? = some (s[ds.getD t 0]'hlt) := Jw hlt
    have hab : zJ (zA m ds).rf (s[ds.getD t 0]'hlt) b = true := (h.rfb hd).2 ⟨t, (b, s), ht, Ka e2, e2, rfl⟩
    exact ⟨_, (h.src (Ka ht)).2.2 _ (Ka e2), hab⟩
  · obtain ⟨t, r, g1, g2, g3, g4⟩ := (h.rfb hd).1 h1
    obtain ⟨t', r', k1, k2, k3, k4⟩ := (h.rfb hd).1 h2
    have et := h.rs_one g1 k1 (by omega)
    subst et
    rw [g1] at k1
    obtain rfl := Ui k1
    rw [g3] at k3
    exact Ui k3
theorem zoD {sel : PathD → List (Nat × Nat)} : ∀ (Ps : List PathD) (k b i j : Nat), zdt sel b Ps i j → ∃ P ∈ Ps, ∃ p ∈ sel P, ∃ (o t : Nat), i = b + o + p.1 ∧ j = b + o + p.2 ∧ ∀ q e, P.ev[q]? = some e → (zbB k Ps)[o + q]? = some { e with th := t }
  | [], _, _, _, _, h => h.elim
  | P :: Ps, k, b, i, j, h => by
    rcases h with ⟨p, hp, h1, h2⟩ | h
    · refine ⟨P, KD, p, hp, 0, k, h1, h2, fun q e he => ?_⟩
      have hq := (Jt.1 he).1
      show (jK k P.ev ++ zbB (k + 1) Ps)[0 + q]? = _
      rw [UU, Js (by unfold jK; rw [QR]; exact hq)]
      unfold jK
      rw [KY, he]; rfl
    · obtain ⟨Q, hQ, p, hp, o, t, h1, h2, h3⟩ := zoD Ps (k + 1) _ _ _ h
      refine ⟨Q, JZ _ hQ, p, hp, P.ev.length + o, t, by omega, by omega, fun q e he => ?_⟩
      show (jK k P.ev ++ zbB (k + 1) Ps)[P.ev.length + o + q]? = _
      have hl : (jK k P.ev).length = P.ev.length := by unfold jK; rw [QR]
      rw [Jo (by omega), hl, show P.ev.length + o + q - P.ev.length = o + q by omega]
      exact h3 q e he
theorem ChoiceW.dep (h : ChoiceW init Ps m) (hd : ds ∈ z8 (zN m)) : j8 (zA m ds) = true := by
  have hr := h.rels hd
  have h48 := zcf h (ds := ds)
  obtain ⟨d1, d2, d3⟩ := zhU (init := init) h.P
  have il : (qB 0 init).length = init.length := z4 _ _
  have ends : ∀ {sel : PathD → List (Nat × Nat)} {i j : Nat}, zdt sel init.length Ps i j → ∃ P ∈ Ps, ∃ p ∈ sel P, ∃ (o t : Nat), i = init.length + o + p.1 ∧ j = init.length + o + p.2 ∧ ∀ q e, P.ev[q]? = some e → evA (zA m ds) (init.length + o + q) = { e with th := t } ∧ (zA m ds).ev[init.length + o + q]? = some { e with th := t } := fun {sel i j} hD => by
    obtain ⟨P, hP, p, hp, o, t, h1, h2, h3⟩ := zoD Ps 0 _ _ _ hD
    refine ⟨P, hP, p, hp, o, t, h1, h2, fun q e he => ?_⟩
    have e1 : (zA m ds).ev[init.length + o + q]? = some { e with th := t } := by
      show m.base.ev[_]? = _
      rw [h.base, zbQ, Jo (by omega), il, show init.length + o + q - init.length = o + q by omega]
      exact h3 q e he
    refine ⟨?_, e1⟩
    unfold evA
    rw [Jn, e1]; rfl
  have po : ∀ {i j t : Nat} {a b : Ev}, (zA m ds).ev[i]? = some { a with th := t } → (zA m ds).ev[j]? = some { b with th := t } → i < j → zJ (zA m ds).po i j = true := fun {i j t a b} h1 h2 hij => by
    have e : (zA m ds).po = poR (zA m ds).ev := by
      show m.base.po = poR m.base.ev
      rw [h.base]; rfl
    rw [e]
    refine (zlz _).2 ⟨_, h1, ?_, hij, (Jt.1 h2).1, ?_⟩
    · show ((t : Nat) : Int) ≠ -1
      omega
    · rw [Jn, h2]; rfl
  have bdt : ∀ {i j}, zJ (zA m ds).dt i j = true → isR (zA m ds) i = true ∧ isW (zA m ds) j = true ∧ zJ (zA m ds).po i j = true := fun {i j} hb => by
    have hb : zJ m.base.dt i j = true := hb
    rw [h.base] at hb
    obtain ⟨P, hP, p, hp, o, t, rfl, rfl, h3⟩ := ends ((d1 _ _).1 hb)
    obtain ⟨a, b, g1, g2, g3, g4, g5⟩ := (h.P P hP).dt p hp
    obtain ⟨a1, a2⟩ := h3 _ _ g1
    obtain ⟨b1, b2⟩ := h3 _ _ g2
    refine ⟨?_, ?_, po a2 b2 (by omega)⟩
    · unfold isR; rw [a1]; exact Uv g4
    · unfold isW; rw [b1]; exact Uv g5
  have bct : ∀ {i j}, zJ (zA m ds).ct i j = true → isR (zA m ds) i = true ∧ zJ (zA m ds).po i j = true := fun {i j} hb => by
    have hb : zJ m.base.ct i j = true := hb
    rw [h.base] at hb
    obtain ⟨P, hP, p, hp, o, t, rfl, rfl, h3⟩ := ends ((d2 _ _).1 hb)
    obtain ⟨a, b, g1, g2, g3, g4⟩ := (h.P P hP).ct p hp
    obtain ⟨a1, a2⟩ := h3 _ _ g1
    obtain ⟨b1, b2⟩ := h3 _ _ g2
    refine ⟨?_, po a2 b2 (by omega)⟩
    unfold isR; rw [a1]; exact Uv g4
  have brm : ∀ {i j}, zJ (zA m ds).rm i j = true → isR (zA m ds) i = true ∧ isW (zA m ds) j = true ∧ zJ (zA m ds).po i j = true ∧ j = i + 1 ∧ (evA (zA m ds) j).l = (evA (zA m ds) i).l := fun {i j} hb => by
    have hb : zJ m.base.rm i j = true := hb
    rw [h.base] at hb
    obtain ⟨P, hP, p, hp, o, t, rfl, rfl, h3⟩ := ends ((d3 _ _).1 hb)
    obtain ⟨a, b, g1, g2, g3, g4, g5, g6⟩ := (h.P P hP).rm p hp
    obtain ⟨a1, a2⟩ := h3 _ _ g1
    obtain ⟨b1, b2⟩ := h3 _ _ g2
    refine ⟨?_, ?_, po a2 b2 (by omega), by omega, ?_⟩
    · unfold isR; rw [a1]; exact Uv g4
    · unfold isW; rw [b1]; exact Uv g5
    · rw [a1, b1]; exact g6.symm
  unfold j8
  have hs := zjM h48 hr.po hr.dt hr.ct hr.rm (zA m ds).ev.length 0 0 (UU _)
  rw [Up] at hs
  refine hs.2 ⟨fun k _ hk => ⟨fun j hj => ?_, fun j hj => ?_, fun i j hi hj => ?_, fun j hj => ?_⟩, fun k j _ _ _ => QH _, fun k k' j _ hkk _ h1 h2 => ?_⟩
  · rcases hj with hj | hj
    · exact (bdt hj).2.1
    · exact (brm hj).2.1
  · rcases hj with hj | hj | hj
    · exact ⟨(bdt hj).1, (bdt hj).2.2⟩
    · exact bct hj
    · exact ⟨(brm hj).1, (brm hj).2.2.1⟩
  · have := (brm hi).2.2.2.1
    have := (brm hj).2.2.2.1
    omega
  · exact (brm hj).2.2.2.2
  · have := (brm h1).2.2.2.1
    have := (brm h2).2.2.2.1
    omega
theorem ChoiceW.right (h : ChoiceW init Ps m) (hd : ds ∈ z8 (zN m)) : zax (zA m ds) = true := by
  have hin : qT (zA m ds).ev = init.length := h.inits
  have hr := h.rels hd
  unfold zax
  rw [hin]
  simp only [Ql]
  refine ⟨Uv (zcf h), Uv h.i1, Uv h.i6, h.evs, ?_, ?_, h.rf hd, h.co hd, h.dep hd⟩
  · unfold zbi
    rw [Qn]
    have one : ∀ {r : RelD}, RelOk (zA m ds).ev.length r → (decide (r.n = (zA m ds).ev.length) && okR r) = true := fun {r} h => by
      rw [Ql]
      exact ⟨Uv h.n, h.ok⟩
    intro r hr2
    simp only [UF, Qz, Gp] at hr2
    rcases hr2 with rfl | rfl | rfl | rfl | rfl | rfl
    · exact one hr.po
    · exact one hr.rf
    · exact one hr.co
    · exact one hr.dt
    · exact one hr.ct
    · exact one hr.rm
  · have e : (zA m ds).po = poR (zA m ds).ev := by
      show m.base.po = poR m.base.ev
      rw [h.base]; rfl
    rw [e]
    exact zf3 _
end
def zaL (l:List Ev):List UInt8:=(l.filter fun e=>decide (e.k=1)).map (·.v)
def zgL (R:RunD):List Ev:=(List.range R.many).map R.ev
def zY (R:RunD):List UInt8:=zaL (zgL R)
def zag (l:List InsD):List UInt8->RunD->Option RunD
 | [],S=>match l[(goR l l.length S).pc]? with
  | none=>some (goR l l.length S)
  | some _=>none
 | v::vs,S=>match l[(goR l l.length S).pc]? with
  | none=>none
  | some x=>zag l vs (zX (goR l l.length S) x v)
theorem zjd (a b:List Ev):zaL (a++b)=zaL a++zaL b:=by
 unfold zaL;rw [Kz,QU]
theorem zow (R:RunD) (k l v m:UInt8) (d:Nat):zgL (jJ R k l v m d)=zgL R++[⟨0,k,l,v,m,UInt8.ofNat R.pc,UInt8.ofNat R.many⟩]:=by
 show (List.range (R.many+1)).map (upd R.ev R.many _)=_;rw [QZ,QU,List.map_singleton,zM];congr 1;refine Ko fun i hi=>?_;have:=Ur.1 hi;exact qp _ _ (by omega)
theorem zaK (R:RunD) (k l v m:UInt8) (d:Nat):zY (jJ R k l v m d)=zY R++if k=1 then [v] else []:=by
 unfold zY;rw [zow,zjd];congr 1;unfold zaL;by_cases h:k=1
 ·rw [Qr,Gs (Uv h),Gs h];rfl
 ·rw [Qr,Gr (by simpa using h),Gr h];rfl
theorem zdA (R:RunD) (x:InsD) (o v:UInt8) (d:Nat):zY (zby R x o v d)=zY R++[o]:=by
 show zY (jJ (jJ R 1 x.loc o 3 0) 2 x.loc v 3 d)=_;rw [zaK,zaK,Gs rfl,Gr (by decide),QN]
theorem zmB {x:InsD} (hx:ExG x) (R:RunD) (v:UInt8):zY (zdO R x v)=zY R++if qX x=true then [v] else []:=by
 rcases hx with ⟨e,-⟩ | ⟨e,-⟩ | ⟨e,-⟩ | ⟨e,-⟩ | ⟨e,-⟩ | ⟨e,-⟩ | e | ⟨e,-⟩
 ·rw [zT.1 e,Gs (by unfold qX;rw [e];rfl)];show zY (jJ R 1 x.loc v x.mode 0)=_;rw [zaK,Gs rfl]
 ·rw [zT.2.1 e,Gr (by unfold qX;rw [e];decide)];show zY (jJ R 2 x.loc _ x.mode _)=_;rw [zaK,Gr (by decide)]
 ·rw [zT.2.2.1 e,Gr (by unfold qX;rw [e];decide),QN];rfl
 ·rw [zT.2.2.2.1 e,Gs (by unfold qX;rw [e];rfl)];exact zdA ..
 ·rw [zT.2.2.2.2.1 e,Gs (by unfold qX;rw [e];rfl)];show zY (zby R x v (v+(qj x.ar x.an R).1) (qj x.ar x.an R).2)=_;exact zdA ..
 ·rw [zT.2.2.2.2.2.1 e,Gs (by unfold qX;rw [e];rfl)];unfold zcW
  split
  ·show zY (zby R x v (qj x.br x.bn R).1 (qj x.br x.bn R).2)=_;exact zdA ..
  ·show zY (jJ R 1 x.loc v 3 0)=_;rw [zaK,Gs rfl]
 ·rw [zT.2.2.2.2.2.2.1 e,Gr (by unfold qX;rw [e];decide)];show zY (jJ R 3 0 0 x.mode 0)=_;rw [zaK,Gr (by decide)]
 ·rw [zT.2.2.2.2.2.2.2 e,Gr (by unfold qX;rw [e];decide),QN];unfold zbl;dsimp only
  split <;> rfl
theorem zco {x:InsD} (hx:ExG x) (R:RunD) (v:UInt8):zY (zX R x v)=zY R++if qX x=true then [v] else []:=zmB hx R v
section
variable {l:List InsD}
theorem zcJ (ht:ThG l):∀ (n:Nat) (S:RunD),RunOk l S->zY (goR l n S)=zY S/\S.pc<=(goR l n S).pc
 | 0,S,_=>⟨rfl,UZ _⟩
 | n+1,S,h=>by
  show zY (match l[S.pc]? with | none=>S | some x=>if qX x then S else goR l n (zX S x 0))=_/\S.pc<=(match l[S.pc]? with | none=>S | some x=>if qX x then S else goR l n (zX S x 0)).pc
  cases hg:l[S.pc]? with
  | none=>exact⟨rfl,UZ _⟩
  | some x =>
   dsimp only
   split
   ·exact⟨rfl,UZ _⟩
   ·rename_i hr;obtain⟨h1,h2⟩:=jW (v:=0) ht h hg;obtain⟨h3,h4⟩:=zcJ ht n _ h1;refine⟨?_,by omega⟩;rw [h3,zco (ht.2 _ _ hg).1,Gr hr,QN]
theorem zgF (ht:ThG l):∀ (n:Nat) (S:RunD),RunOk l S->l.length<=n+S.pc->∀ x,l[(goR l n S).pc]?=some x->qX x=true
 | 0,S,h,hn,x,hx=>by
  have:(goR l 0 S).pc<l.length:=(Jt.1 hx).1;have:S.pc<l.length:=this;omega
 | n+1,S,h,hn,x,hx=>by
  have hx:l[(match l[S.pc]? with | none=>S | some x=>if qX x then S else goR l n (zX S x 0)).pc]?=some x:=hx
  cases hg:l[S.pc]? with
  | none =>
   rw [hg] at hx;have hx:l[S.pc]?=some x:=hx;rw [hg] at hx;cases hx
  | some y =>
   rw [hg] at hx;dsimp only at hx
   split at hx
   ·rename_i hr;rw [hg] at hx;rw [<- Ui hx];exact hr
   ·obtain⟨h1,h2⟩:=jW (v:=0) ht h hg;exact zgF ht n _ h1 (by omega) x hx
theorem zaT (ht:ThG l) (V:List UInt8):∀ (n:Nat) (S:RunD),RunOk l S->l.length<=n+S.pc->∀ R∈zS l V n S,∃ vs,zag l vs S=some R/\zY R=zY S++vs/\∀ v∈vs,v∈V
 | 0,S,h,hn,R,hR=>by
  have hR:=KE.1 hR;have hp:=(zcJ ht l.length S h).2;have hg:l[(goR l l.length S).pc]?=none:=JL (by omega);refine⟨[],?_,by rw [hR,QN];exact (zcJ ht _ S h).1,fun v hv=>by cases hv⟩;unfold zag;rw [hg,hR]
 | n+1,S,h,hn,R,hR=>by
  have hT:=zgG ht l.length S h;obtain⟨hr,hp⟩:=zcJ ht l.length S h;have hR:R∈(match l[(goR l l.length S).pc]? with | none=>[goR l l.length S] | some x=>V.flatMap fun v=>zS l V n (zX (goR l l.length S) x v)):=hR
  cases hg:l[(goR l l.length S).pc]? with
  | none =>
   rw [hg] at hR;have hR:=KE.1 hR;refine⟨[],?_,by rw [hR,QN];exact hr,fun v hv=>by cases hv⟩;unfold zag;rw [hg,hR]
  | some x =>
   rw [hg] at hR;obtain⟨v,hv,hR⟩:=List.mem_flatMap.1 hR;obtain⟨h1,h2⟩:=jW (v:=v) ht hT hg;obtain⟨vs,k1,k2,k3⟩:=zaT ht V n _ h1 (by omega) R hR;have hrd:=zgF ht _ S h (by omega) x hg;refine⟨v::vs,?_,?_,fun u hu=>?_⟩
   ·unfold zag;rw [hg];exact k1
   ·rw [k2,zco (ht.2 _ _ hg).1,Gs hrd,hr,KT];rfl
   ·rcases UF.1 hu with e | e
    ·rw [e];exact hv
    ·exact k3 u e
theorem zpp:zY zdz=[]:=rfl
theorem zjG (ht:ThG l) (V:List UInt8) {R:RunD} (hR:R∈qs l V):zag l (zY R) zdz=some R:=by
 obtain⟨vs,h1,h2,_⟩:=zaT ht V l.length zdz (zd0 l) (QC _ _) R hR;rw [zpp,QX] at h2;rw [h2];exact h1
theorem zhl (ht:ThG l) {V:List UInt8} (hV:V.Nodup):∀ (n:Nat) (S:RunD),RunOk l S->l.length<=n+S.pc->(zS l V n S).Pairwise fun a b=>zY a≠zY b
 | 0,S,h,hn=>List.pairwise_singleton ..
 | n+1,S,h,hn=>by
  have hT:=zgG ht l.length S h;obtain⟨hr,hp⟩:=zcJ ht l.length S h;show (match l[(goR l l.length S).pc]? with | none=>[goR l l.length S] | some x=>V.flatMap fun v=>zS l V n (zX (goR l l.length S) x v)).Pairwise _
  cases hg:l[(goR l l.length S).pc]? with
  | none=>exact List.pairwise_singleton ..
  | some x =>
   have hrd:=zgF ht _ S h (by omega) x hg;dsimp only;rw [List.pairwise_flatMap];refine⟨fun v hv=>?_,?_⟩
   ·obtain⟨h1,h2⟩:=jW (v:=v) ht hT hg;exact zhl ht hV n _ h1 (by omega)
   ·refine List.Pairwise.imp_of_mem ?_ hV;intro v v' _ _ hvv a ha b hb e;obtain⟨h1,h2⟩:=jW (v:=v) ht hT hg;obtain⟨g1,g2⟩:=jW (v:=v') ht hT hg;obtain⟨vs,_,k2,_⟩:=zaT ht V n _ h1 (by omega) a ha;obtain⟨us,_,j2,_⟩:=zaT ht V n _ g1 (by omega) b hb;rw [k2,j2,zco (ht.2 _ _ hg).1,zco (ht.2 _ _ hg).1,Gs hrd,Gs hrd,KT,KT] at e;have:=List.append_cancel_left e;simp only [List.singleton_append,QO] at this;exact hvv this.1
theorem zp0 (ht:ThG l) {V:List UInt8} (hV:V.Nodup):(qs l V).Pairwise fun a b=>zY a≠zY b:=zhl ht hV _ _ (zd0 l) (QC _ _)
end
end Go.Proofs.YtpalcnbhkigagaaGreatDoor
