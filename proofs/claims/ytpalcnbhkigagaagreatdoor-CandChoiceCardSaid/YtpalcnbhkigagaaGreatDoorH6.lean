/- Contracts of functions, and plain facts, for the law that the last text of this claim proves. -/
import Derived.Test.YtpalcnbhkigagaaGreatDoorH2
import Derived.Test.YtpalcnbhkigagaaGreatDoorH5
import Derived.Test.YtpalcnbhkigagaaGreatDoorH3
import Derived.Test.YtpalcnbhkigagaaGreatDoorH4
set_option linter.unusedSimpArgs false
set_option linter.unusedVariables false
namespace Go.Proofs.YtpalcnbhkigagaaGreatDoor
open Go.Vc Go.RowKit Go.Sei
structure RowN {α : Type} (E : Enc α) (n0 : Nat) (F : Nat → Prop) (X : Wd) (q : OA) (l : List α) : Prop where
  row : SlR E X q l
  out : l ≠ [] → ∀ a, q = some a → a.block < n0 ∧ ¬ F a.block
theorem RowN.keep {α : Type} {E : Enc α} {n0 : Nat} {F F' G : Nat → Prop} {X Y : Wd} {q : OA} {l : List α} (h : RowN E n0 F X q l) (hn : n0 ≤ X.heap.size) (k : KeepsG G F' X Y) (hG : ∀ k, k < n0 → G k → F k) : RowN E n0 F' Y q l := by
  by_cases hne : l = []
  · exact ⟨.inl hne, fun h => (h hne).elim⟩
  · have r : RowF E n0 F X q l := ⟨h.row, h.out hne⟩
    have r2 := r.keep hn k hG
    exact ⟨r2.row, fun _ => r2.out⟩
section
variable {yl n0 cap cd : Nat} {J Jx : List RunD → (Nat → Prop) → Wd → Prop} {xs : List RunD} {l : List InsD} {dom : List UInt8} {q p : OA}
theorem zmj (hJ : JG n0 (fun _ => False) J) (hn0 : ∀ pre F X, J pre F X → n0 ≤ X.heap.size) (hy : ∀ pre x vs F W1, J pre F W1 → StR (pre ++ [x]) vs W1 → (pre ++ [x]) <+: xs → YieldR PG yl vs.toArray W1 fun v W2 =>
      (v = .bool true ∧ ∃ F', J (pre ++ [x]) F' W2 ∧ KeepsG F F' W1 W2) ∨ (v = .bool false ∧ ∃ F', Jx (pre ++ [x]) F' W2)) (ht : ThG l) (hd : dom.length ≤ 1000) :
    ∀ (n : Nat) (S : RunD) (b : Nat) (pre : List RunD) (F : Nat → Prop) (X : Wd), l.length ≤ n + S.pc → RunOk l S → jq X b S → n0 ≤ b → ¬ F b → J pre F X → RowN zH n0 F X q l → RowF zM n0 F X p dom → (pre ++ z4 l dom n S) <+: xs →
      Calls PG 105 #[AtR b, .slice q l.length cap, .slice p dom.length cd, .func (.yield yl) #[] #[]] X fun e Y =>
        (e = .returned (.bool true) ∧ ∃ F', J (pre ++ z4 l dom n S) F' Y ∧ KeepsG (fun k => F k ∨ k = b) F' X Y) ∨ (e = .returned (.bool false) ∧ ∃ pre' F', pre' <+: xs ∧ Jx pre' F' Y) := by
  intro n
  induction n with
  | zero =>
    intro S b pre F X hn hS fX hb hFb hj hq hdm hpre
    refine jl (S := sg 41) (zbe _) (args := [AtR b, .slice q l.length cap, .slice p dom.length cd, .func (.yield yl) #[] #[]]) Tryz.func105 rfl rfl (JU rfl) rfl ?_
    have hpc : S.pc = l.length := by have := hS.p; omega
    have hg : l[S.pc]? = none := JM (by omega)
    have e1 : goR l l.length S = S := zoh hg _
    refine Ge (zfV fX hq.row (fun hne a ha => by have := (hq.out hne a ha).1; omega) ht hS) ?_
    rintro e Y ⟨rfl, fY, gY, _⟩
    rw [e1] at fY ⊢
    rw [hg]
    refine brT ?_
    have hjY := hJ.step _ _ _ _ hj (StepG.grown gY (.inl hb) hFb)
    have hs : z4 l dom 0 S = [S] := by show [goR l l.length S] = _; rw [e1]
    rw [hs] at hpre ⊢
    refine YieldR.mono (hy pre S [AtR b] F Y hjY ⟨S, b, by simp, rfl, fY⟩ hpre) ?_
    rintro v Z (⟨rfl, F', hJZ, hKZ⟩ | ⟨rfl, F', hJZ⟩)
    · exact .inl ⟨rfl, F', hJZ, (KeepsG.grown (F := fun k => F k ∨ k = b) gY (.inr rfl)).trans (hKZ.weak fun k h => .inl h)⟩
    · exact .inr ⟨rfl, _, F', hpre, hJZ⟩
  | succ n ih =>
    intro S b pre F X hn hS fX hb hFb hj hq hdm hpre
    refine jl (S := sg 41) (zbe _) (args := [AtR b, .slice q l.length cap, .slice p dom.length cd, .func (.yield yl) #[] #[]]) Tryz.func105 rfl rfl (JU rfl) rfl ?_
    obtain ⟨T, hT⟩ : ∃ T, T = goR l l.length S := ⟨_, rfl⟩
    refine Ge (zfV fX hq.row (fun hne a ha => by have := (hq.out hne a ha).1; omega) ht hS) ?_
    rintro e Y ⟨rfl, fY, gY, tO, tpp⟩
    rw [← hT] at fY tO tpp ⊢
    have hjY := hJ.step _ _ _ _ hj (StepG.grown gY (.inl hb) hFb)
    have hXn := hn0 _ _ _ hj
    have kY : KeepsG (fun k => F k ∨ k = b) F X Y := ⟨gY.os, gY.tape, gY.output, gY.size, fun k hk hf => gY.block k hk (fun e => hf (.inr (by cases e; rfl))), fun k h => .inl (.inl h)⟩
    have hqY := hq.keep hXn kY (fun k hk h => h.resolve_right (by omega))
    have hdY := hdm.keep hXn kY (fun k hk h => h.resolve_right (by omega))
    cases hg : l[T.pc]? with
    | none =>
      refine brT ?_
      have hs : z4 l dom (n + 1) S = [T] := by
        show (match l[(goR l l.length S).pc]? with | none => [goR l l.length S] | some x => _) = _
        rw [← hT, hg]
      rw [hs] at hpre ⊢
      refine YieldR.mono (hy pre T [AtR b] F Y hjY ⟨T, b, by simp, rfl, fY⟩ hpre) ?_
      rintro v Z (⟨rfl, F', hJZ, hKZ⟩ | ⟨rfl, F', hJZ⟩)
      · exact .inl ⟨rfl, F', hJZ, kY.trans hKZ⟩
      · exact .inr ⟨rfl, _, F', hpre, hJZ⟩
    | some x =>
      have hi : T.pc < l.length := (Js.1 hg).1
      have hxe : l[T.pc] = x := by rw [Jw hi] at hg; exact Uh hg
      have hxi := (ht.2 _ _ hg).1
      refine brF ?_
      have hs : z4 l dom (n + 1) S = dom.flatMap fun v => z4 l dom n (qi T x v) := by
        show (match l[(goR l l.length S).pc]? with | none => [goR l l.length S] | some x => _) = _
        rw [← hT, hg]
      rw [hs] at hpre ⊢
      refine ⟨Nat × (Nat → Prop), fun s => ⟨[(0, AtR b), (1, .slice q l.length cap), (2, .slice p dom.length cd), (3, .func (.yield yl) #[] #[]), (19, .slice p dom.length cd), (20, i64 dom.length), (21, i64 (s.1 : Nat))], []⟩,
        fun s Z => s.1 ≤ dom.length ∧ J (pre ++ (dom.take s.1).flatMap fun v => z4 l dom n (qi T x v)) s.2 Z ∧ jq Z b T ∧ ¬ s.2 b ∧ RowN zH n0 s.2 Z q l ∧ RowF zM n0 s.2 Z p dom ∧ KeepsG (fun k => F k ∨ k = b) s.2 X Z, fun s => dom.length - s.1, (0, F),
        ⟨.cons rfl (.cons rfl (.cons rfl (.cons rfl (.cons rfl (.cons rfl (.cons rfl .nil)))))), rfl⟩, ⟨Gb _, by rw [Ur]; show J (pre ++ []) F Y; rw [QM]; exact hjY, fY, hFb, hqY, hdY, kY⟩, ?_⟩
      clear fY gY hjY hqY hdY kY
      rintro ⟨k, G⟩ Z ⟨hk, hjZ, fZ, hGb, hqZ, hdZ, kZ⟩
      dsimp only at hk hjZ hGb hqZ hdZ kZ ⊢
      have hZn := hn0 _ _ _ hjZ
      refine Gi (fun hc => ?_) (fun hc => ?_)
      · have hc : (k : Int) < (dom.length : Int) := Qf hc
        have hkd : k < dom.length := by omega
        obtain ⟨bp, op, hpe, hlp, hatp⟩ := hdZ.row.at hkd
        have hqr := hqZ
        obtain ⟨bq, oq, hqe, hlq, hatq⟩ := hqZ.row.at hi
        have ep : some (Value.slice p dom.length cd) = some (Value.slice (some ⟨bp, op, none⟩) dom.length cd) := by rw [hpe]
        subst hpe
        refine ⟨k, rfl, hkd, ?_⟩
        refine ⟨u8 dom[k], by have := zc (hatp k hkd) (i := 0) (v := u8 dom[k]) rfl; exact this, ?_⟩
        refine ⟨qB T, jt _, za fZ, hlt fZ, ?_⟩
        refine zn (X := Z) (v := .agg (qB T).toArray) (jL.get 112 _ rfl) (jt _) zmb (znG _) fun V hbV fV sV => ?_
        subst hqe
        have fV : jq V Z.heap.size T := fV
        refine ⟨_, zc (za fV) (i := 0) rfl, ?_⟩
        refine ⟨T.pc, rfl, hi, ?_⟩
        refine ⟨zH.enc x, rfl, by rw [← hxe]; exact zm hbV (hatq T.pc hi), KI hlq hbV.size, ?_⟩
        refine Ge (zgw (v := dom[k]) fV tO.s (by have := tO.m; have := ht.1; omega) (by have := ht.1; omega) hxi) ?_
        rintro e U ⟨rfl, fU, gU⟩
        obtain ⟨x1, x2⟩ := zej (v := dom[k]) ht tO hg
        have hGn : ¬ G Z.heap.size := fun h => by have := (hJ.lt _ _ _ _ hjZ h).1; omega
        have hjU := hJ.step _ _ _ _ (hJ.step _ _ _ _ hjZ (StepG.below hbV)) (StepG.grown gU (.inl hZn) hGn)
        have hbU : Below Z.heap.size Z U := hbV.trans (zh gU hbV.size (UY _))
        have kU : KeepsG G G Z U := KeepsG.below hbU fun k h => .inl h
        have hqU := hqr.keep hZn kU (fun k _ h => h)
        have hdU := hdZ.keep hZn kU (fun k _ h => h)
        have hdk : dom.flatMap (fun v => z4 l dom n (qi T x v)) = (dom.take k).flatMap (fun v => z4 l dom n (qi T x v)) ++ (z4 l dom n (qi T x dom[k]) ++ (dom.drop (k + 1)).flatMap fun v => z4 l dom n (qi T x v)) := by
          have e : dom = dom.take k ++ dom[k] :: dom.drop (k + 1) := by rw [JI, JS]
          have e2 : (dom.take k ++ dom[k] :: dom.drop (k + 1)).flatMap (fun v => z4 l dom n (qi T x v)) = (dom.take k).flatMap (fun v => z4 l dom n (qi T x v)) ++ (z4 l dom n (qi T x dom[k]) ++ (dom.drop (k + 1)).flatMap fun v => z4 l dom n (qi T x v)) := by
            rw [Kj, KV]
          rw [← e] at e2
          exact e2
        have hpk : ((pre ++ (dom.take k).flatMap fun v => z4 l dom n (qi T x v)) ++ z4 l dom n (qi T x dom[k])) <+: xs := by
          refine List.IsPrefix.trans ?_ hpre
          rw [hdk]
          exact ⟨(dom.drop (k + 1)).flatMap fun v => z4 l dom n (qi T x v), by simp only [KS]⟩
        have htk : (dom.take (k + 1)).flatMap (fun v => z4 l dom n (qi T x v)) = (dom.take k).flatMap (fun v => z4 l dom n (qi T x v)) ++ z4 l dom n (qi T x dom[k]) := by
          rw [Jd hkd, Kj, KV, Qs, QM]
        refine Ge (ih (qi T x dom[k]) Z.heap.size (pre ++ (dom.take k).flatMap fun v => z4 l dom n (qi T x v)) G U (by omega) x1 fU hZn hGn hjU hqU hdU hpk) ?_
        rintro e V' (⟨rfl, F', hjV, kV⟩ | ⟨rfl, pre', F', hp', hjx⟩)
        · refine brF ?_
          have kW : KeepsG G F' Z V' := ⟨kV.os.trans kU.os, kV.tape.trans kU.tape, kV.output.trans kU.output, UO kU.size kV.size, fun i hi hf => (kV.same i (KI hi kU.size) (fun h => by
            rcases h with h | h
            · exact hf h
            · omega)).trans (kU.same i hi hf), fun i h => by
            have := kU.size
            rcases kV.fp i h with (h2 | h2) | h2
            · exact .inl h2
            · exact .inr (by omega)
            · exact .inr (by omega)⟩
          have hbZ := hlt fZ
          refine ⟨((k + 1 : Nat) : Int), (ze (by omega)).trans (by omega), ?_⟩
          refine ⟨(k + 1, F'), ⟨.cons rfl (.cons rfl (.cons rfl (.cons rfl (.cons rfl (.cons rfl (.cons rfl .nil)))))), rfl⟩, ⟨hkd, ?_, (kW.same b hbZ hGb).trans fZ, fun h => ?_, hqr.keep hZn kW (fun _ _ h => h), hdZ.keep hZn kW (fun _ _ h => h), kZ.trans kW⟩, by show dom.length - (k + 1) < dom.length - k; omega⟩
          · show J (pre ++ (dom.take (k + 1)).flatMap fun v => z4 l dom n (qi T x v)) F' V'
            rw [htk, ← KS]
            exact hjV
          · rcases kW.fp b h with h2 | h2
            · exact hGb h2
            · omega
        · refine brT ?_
          exact .inr ⟨rfl, pre', F', hp', hjx⟩
      · have hc : ¬ (k : Int) < (dom.length : Int) := KL hc
        obtain rfl : k = dom.length := by omega
        rw [Qz] at hjZ
        exact .inl ⟨rfl, G, hjZ, kZ⟩
theorem ziv {bi bd : Nat} {W0 : Wd} (hl : SlR zH W0 q l) (hp : SlR zM W0 p dom) (fi : W0.heap[bi]? = some (.cells #[.slice q l.length cap] 42 (0, 0))) (fd : W0.heap[bd]? = some (.cells #[.slice p dom.length cd] 23 (0, 0))) (hql : l ≠ [] → ∀ a, q = some a → a.block < W0.heap.size) (hpl : ∀ a, p = some a → a.block < W0.heap.size) (ht : ThG l) (hd : dom.length ≤ 1000) :
    zhS PG 104 [AtR bi, AtR bd] (jv l dom) W0 (fun k => (k = bi ∨ k = bd) ∨ (l ≠ [] ∧ ∃ a, q = some a ∧ k = a.block) ∨ ∃ a, p = some a ∧ k = a.block) (fun _ => False) StR := by
  intro yl F0 J Jx W hsz hrd hrf hJ hJx hy h0
  refine jl (S := sg 9) (zbe _) (args := [.func (.yield yl) #[] #[], AtR bi, AtR bd]) Tryz.func104 rfl rfl (JU rfl) rfl ?_
  obtain ⟨X, hX⟩ : ∃ X, X = W.alloc (.cells (qB zjc).toArray 112) := ⟨_, rfl⟩
  have hbX : Below W.heap.size W X := by rw [hX]; exact (Gd _ W).alloc (UY _) _
  have fX : jq X W.heap.size zjc := by rw [hX]; exact zz W _
  have ez : zlf = qB zjc := by kernel_rfl
  have hX' : W.alloc (.cells (zlf).toArray 112) = X := by rw [hX, ez]
  have fiW := (hrd bi (.inl (.inl (.inl rfl)))).trans fi
  have fdW := (hrd bd (.inl (.inl (.inr rfl)))).trans fd
  have hjX := hJ.step _ _ _ _ h0 (StepG.below hbX)
  have hF : ¬ F0 W.heap.size := fun h => by have := (hJ.lt _ _ _ _ h0 h).1; omega
  have hlX : RowN zH W.heap.size F0 X q l := by
    by_cases hne : l = []
    · exact ⟨.inl hne, fun h => (h hne).elim⟩
    · exact ⟨qT hl fun a ha => (hbX.block _ (by have := hql hne a ha; omega)).trans (hrd _ (.inl (.inr (.inl ⟨hne, a, ha, rfl⟩)))), fun _ a ha => ⟨by have := hql hne a ha; omega, hrf _ (.inr (.inl ⟨hne, a, ha, rfl⟩))⟩⟩
  have hpX : RowF zM W.heap.size F0 X p dom := ⟨qT hp fun a ha => (hbX.block _ (by have := hpl a ha; omega)).trans (hrd _ (.inl (.inr (.inr ⟨a, ha, rfl⟩)))), fun a ha => ⟨by have := hpl a ha; omega, hrf _ (.inr (.inr ⟨a, ha, rfl⟩))⟩⟩
  refine ⟨_, by rw [hX']; exact zc (za (zb hbX fiW)) (i := 0) rfl, ?_⟩
  refine ⟨_, by rw [hX']; exact zc (za (zb hbX fdW)) (i := 0) rfl, ?_⟩
  rw [hX']
  have hJn : JG W.heap.size (fun _ => False) (fun pre F Z => J pre F Z ∧ W.heap.size ≤ Z.heap.size) := ⟨fun s F A B ⟨h, hn⟩ hs => ⟨hJ.step _ _ _ _ h hs, UO hn hs.size⟩, fun s F A k ⟨h, _⟩ hk => hJ.lt _ _ _ _ h hk⟩
  refine Ge (zmj (xs := jv l dom) (Jx := Jx) hJn (fun _ _ _ h => h.2) (fun pre x vs F W1 ⟨hj, hn⟩ hst hpre => YieldR.mono (hy pre x vs F W1 hj hst hpre) fun v W2 h => ?_) ht hd l.length zjc W.heap.size [] F0 X (UY _) (zlr l) fX (UY _) hF ⟨hjX, hbX.size⟩ hlX hpX (List.prefix_refl _)) ?_
  · rcases h with ⟨rfl, F', h1, h2⟩ | h
    · exact .inl ⟨rfl, F', ⟨h1, UO hn h2.size⟩, h2⟩
    · exact .inr h
  · rintro e Y (⟨rfl, F', ⟨hj, _⟩, _⟩ | ⟨rfl, pre', F', h1, h2⟩)
    · exact ⟨⟨_, rfl⟩, .inl ⟨F', hj⟩⟩
    · exact ⟨⟨_, rfl⟩, .inr ⟨pre', F', h1, h2⟩⟩
end
section
variable {l:List InsD} {vals:List UInt8} {q p:OA} {cap cd:Nat} {w:Wd}
theorem zo6 (hl:SlR zH w q l) (hp:SlR zM w p vals) (hv1:1<=vals.length) (hvm:vals.length<=60000) (hok:qr l 6=true) (hG:GlobE w) (hqb:l≠[]->∀ a,q=some a->a.block<w.heap.size) :
  Calls PG 44 #[.slice q l.length cap,.slice p vals.length cd,i64 4096] w fun e w'=>((∃ (xs:List zc0) (p':OA) (c':Nat),(jv l (je vals)).length<=4096/\e = .returned (.tuple #[.slice p' xs.length c',i64 0])/\xs.map (·.1)=(jv l (je vals)).map za8/\OwnS jG 73 w.heap.size w' p' c' xs/\∀ x∈xs,PthO w.heap.size w' x)\/(4096<(jv l (je vals)).length/\e = .returned (.tuple #[.slice none 0 0,i64 5])))/\Bw w w':=by
 have ht:=zki hok;have h12:l.length<=12:=ht.1;refine qX 45 [.slice q l.length cap,.slice p vals.length cd,i64 4096] (.c .p (.s .p (.c .p (.c .p (.c .p (.c .p .p)))))) Tryz.func44 ?_;obtain⟨L,hL⟩:=nm (w.heap.size);refine⟨Unit,fun _=>⟨[(0,.slice q l.length cap),(1,.slice p vals.length cd),(5,AtR L),(6,AtR (L+1)),(7,AtR (L+2))],[]⟩,fun _ X=>X.heap[L]?=some (.cells #[i64 4096] 3 (0,0))/\X.heap[L+1]?=some (.cells #[.slice none 0 0] 78 (0,0))/\X.heap[L+2]?=some (.cells #[i64 0] 34 (0,0))/\X.heap.size=L+3/\Bw w X,?_,?_⟩
 ·have s1:=wz w (.cells #[i64 4096] 3);have h2:=zz (w.alloc (.cells #[i64 4096] 3)) (.cells #[.slice none 0 0] 78);have s2:=wz (w.alloc (.cells #[i64 4096] 3)) (.cells #[.slice none 0 0] 78);have h3:=zz ((w.alloc (.cells #[i64 4096] 3)).alloc (.cells #[.slice none 0 0] 78)) (.cells #[i64 0] 34);have s3:=wz ((w.alloc (.cells #[i64 4096] 3)).alloc (.cells #[.slice none 0 0] 78)) (.cells #[i64 0] 34);rw [s1] at h2 s2;rw [s2] at h3 s3;refine⟨(),⟨.cons rfl (.cons rfl (.cons (by rw [hL];rfl) (.cons (by rw [hL,<- s1];rfl) (.cons (by rw [hL,<- s2];rfl) .nil)))),rfl⟩,?_,?_,?_,?_,?_⟩
  ·rw [hL];exact qG _ (qG _ (zz w _))
  ·rw [hL];exact qG _ h2
  ·rw [hL];exact h3
  ·rw [hL];exact s3
  ·exact (((zba w _)).alloc (by simp) _).alloc (by simp;omega) _
 rintro _ X ⟨f0,f1,f2,sX,hbX⟩;refine⟨_,zc (za f0) (i:=0) rfl,brF ⟨_,zc (za f0) (i:=0) rfl,brF (cmo (zpk (hl.below hbX) (hG.c.below hbX) (by omega)) ?_)⟩⟩;rintro e Y ⟨rfl,hbY⟩;rw [hok];refine brF ?_;have hwY:=zst hbX hbY;have f0:=zb hbY f0;have f1:=zb hbY f1;have f2:=zb hbY f2;have sY:=hbY.size;obtain⟨D,hD⟩:=nm (je vals);have hdl:D.length<=256:=by rw [hD];exact zdi vals
 have hR:∀ R∈jv l D,R.many<=24/\zsl R:=fun R h=>⟨(zfy ht D R h).1,fun i _=>(zfy ht D R h).2 i⟩;rw [<- hD];refine⟨OA×Nat,fun s=>⟨[(0,.slice q l.length cap),(1,.slice s.1 D.length s.2),(5,AtR L),(6,AtR (L+1)),(7,AtR (L+2))],[]⟩,fun s Z=>OwnS zM 5 (L+3) Z s.1 s.2 D/\Bw Y Z,?_,?_⟩
 ·refine cmo (zcU (hp.below hwY) hv1 hvm) ?_;rintro e Z ⟨⟨d,cc,rfl,ho⟩,hbZ⟩;rw [<- hD] at ho;exact⟨(d,cc),⟨.cons rfl (.cons (by rw [hD];rfl) (.cons rfl (.cons rfl (.cons rfl .nil)))),rfl⟩,OwnS.lower ho (by omega),hbZ⟩
 rintro⟨d,cc⟩ Z ⟨oD,hbZ⟩;dsimp only at oD ⊢;have hwZ:=zst hwY hbZ;have f0:=zb hbZ f0;have f1:=zb hbZ f1;have f2:=zb hbZ f2;have sZ:=hbZ.size;obtain⟨N,hN⟩:=nm (Z.heap.size);refine⟨Unit,fun _=>⟨[(0,.slice q l.length cap),(1,.slice d D.length cc),(5,AtR L),(6,AtR (L+1)),(7,AtR (L+2)),(8,AtR N)],[]⟩,fun _ V=>V.heap[N]?=some (.cells [i64 0].toArray 3 (0,0))/\V.heap.size=N+1/\Bw Z V,?_,?_⟩
 ·exact zn (X:=Z) (v:=i64 0) k3 rfl rfl rfl fun V hbV fV sV=>⟨(),⟨.cons rfl (.cons rfl (.cons rfl (.cons rfl (.cons rfl (.cons (by rw [hN];rfl) .nil))))),rfl⟩,by rw [hN];exact fV,by rw [hN];exact sV,hbV⟩
 rintro _ V ⟨fN,sV,hbV⟩;have hwV:=zst hwZ hbV;have f0:=zb hbV f0;have f1:=zb hbV f1;have f2:=zb hbV f2;have dlt:∀ a,d=some a->a.block<N:=fun a ha=>by rw [hN];exact (zao oD ha).2.1
 have oD:=oD.below hbV;have hNZ:w.heap.size<=N:=by rw [hN];exact hwZ.size
 have hNL:L+3<=N:=by omega
 obtain⟨xs0,hxs0⟩:=nm (jv l D);rw [<- hxs0] at hR ⊢;have dge:∀ a,d=some a->L+3<=a.block:=fun a ha=>(zao oD ha).1;refine⟨Nat,fun D1=>⟨[(0,.slice q l.length cap),(1,.slice d D.length cc),(5,AtR L),(6,AtR (L+1)),(7,AtR (L+2)),(8,AtR N)],[{ target := .collected D1,args := #[] }]⟩,fun D1 U=>xs0.length<=4096/\U.heap[N]?=some (.cells #[i64 xs0.length] 3 (0,0))/\U.heap[D1]?=some (.deferred (some []))/\N<D1/\V.grownBy U (some N),?_,?_⟩
 ·refine cmo ziw ?_;rintro e W ⟨rfl,fi,fd,sW,hbW⟩;have hwW:=zst hwV hbW;have fNW:=zb hbW fN;have f0W:=zb hbW f0;have f1W:=zb hbW f1;have f2W:=zb hbW f2;have qlt:l≠[]->∀ a,q=some a->a.block<w.heap.size:=hqb;have hI:=ziv (q:=q) (p:=d) (hl.below hwW) (oD.below hbW).row fi fd (fun hne a ha=>by have:=qlt hne a ha;have:=hwW.size;omega) (fun a ha=>by have:=dlt a ha;omega) ht (by omega);rw [<- hxs0] at hI;obtain⟨F0,hF0⟩:∃ F0:Nat->Prop,F0=fun k=>k=N\/k=L+1\/k=L+2:=⟨_,rfl⟩;refine zcK (zbe _) rfl (lb := #[AtR V.heap.size,AtR (V.heap.size+1)]) rfl rfl hI (UY _) (fun k hk=>⟨?_,rfl⟩) (fun pre vs W ⟨R,b,_,h,_⟩=>by rw [h];rfl) (by decide)
   F0 (fun pre F Y=>F=F0/\W.heap.size<=Y.heap.size/\pre.length<=4096/\Y.heap[N]?=some (.cells [i64 pre.length].toArray 3 (0,0))/\W.grownBy Y (some N))
   (fun ex pre F Y=>F=F0/\W.heap.size<=Y.heap.size/\ex = .ret/\4096<xs0.length/\Y.heap[L+1]?=some (.cells #[.slice none 0 0] 78 (0,0))/\Y.heap[L+2]?=some (.cells #[i64 5] 34 (0,0))/\Below L W Y) (fun k hk=>?_)
   (joG (F:=F0) (J:=fun (pre:List RunD) Y=>W.heap.size<=Y.heap.size/\pre.length<=4096/\Y.heap[N]?=some (.cells [i64 pre.length].toArray 3 (0,0))/\W.grownBy Y (some N)) (fun k h=>by rw [hF0] at h;omega) (fun s A h=>h.1) (fun pre A B ⟨h1,h2,h3,h4⟩ hb=>⟨UO h1 hb.size,h2,jg hb (by omega) h3,jj h4 hb⟩))
   (fun ex=>joG (F:=F0) (J:=fun (pre:List RunD) Y=>W.heap.size<=Y.heap.size/\ex = .ret/\4096<xs0.length/\Y.heap[L+1]?=some (.cells #[.slice none 0 0] 78 (0,0))/\Y.heap[L+2]?=some (.cells #[i64 5] 34 (0,0))/\Below L W Y) (fun k h=>by rw [hF0] at h;omega) (fun s A h=>h.1) (fun pre A B ⟨h1,h2,h3,h4,h5,h6⟩ hb=>⟨UO h1 hb.size,h2,h3,jg hb (by omega) h4,jg hb (by omega) h5,h6.trans (hb.mono (by omega))⟩))
   ⟨rfl,UY _,Gb _,fNW,z8 _ _⟩ ?_ ?_ ?_
  ·rcases hk with ((rfl | rfl) | ⟨hne,a,ha,rfl⟩ | ⟨a,ha,rfl⟩) | h
   ·omega
   ·omega
   ·have:=qlt hne a ha;have:=hwW.size;omega
   ·have:=dlt a ha;omega
   ·exact h.elim
  ·rw [hF0];rcases hk with (rfl | rfl) | ⟨hne,a,ha,rfl⟩ | ⟨a,ha,rfl⟩
   ·omega
   ·omega
   ·have:=qlt hne a ha;omega
   ·have:=dlt a ha;have:=dge a ha;omega
  ·rintro yl pre x vs F Y hyl hpre hJ ⟨R',b',_,rfl,_⟩ hfy hlo;refine⟨rfl,F,KeepsG.refl _ _,hJ,?_⟩;rintro o Y2 hY2 ⟨rfl,h1,h4,h2,h3⟩;have hpl:pre.length<xs0.length:=by
    obtain⟨t,ht⟩:=hpre;rw [<- ht];simp only [lap,Qv];omega
   have g0:Y2.heap[L]?=some (.cells #[i64 4096] 3 (0,0)):=(h3.block L (hlt f0W) (by simp;omega)).trans f0W;refine⟨_,zc (za h2) (i:=0) rfl,_,zc (za g0) (i:=0) rfl,biE (fun hc=>?_) fun hc=>?_⟩
   ·have hc:(pre.length:Int)=4096:=dT hc;have g1:Y2.heap[L+1]?=some (.cells #[.slice none 0 0] 78 (0,0)):=(h3.block (L+1) (hlt f1W) (by simp;omega)).trans f1W;have g2:Y2.heap[L+2]?=some (.cells #[i64 0] 34 (0,0)):=(h3.block (L+2) (hlt f2W) (by simp;omega)).trans f2W;refine zi k78 g1 (o:=0) (v := .slice none 0 0) rfl rfl (by show 0<1;decide) rfl fun Z1 fZ1 gZ1 sZ1=>?_;have g2':=(gZ1.block (L+2) (hlt g2) (by simp)).trans g2;exact zi k34 g2' (o:=0) (v:=i64 5) rfl rfl (by show 0<1;decide) rfl fun Z2 fZ2 gZ2 sZ2=>⟨F,⟨rfl,by omega,rfl,by omega,(gZ2.block (L+1) (hlt fZ1) (by simp)).trans fZ1,fZ2,gZ2.os.trans (gZ1.os.trans h3.os),gZ2.tape.trans (gZ1.tape.trans h3.tape),gZ2.output.trans (gZ1.output.trans h3.output),by omega,fun k hk=>(gZ2.block k (by omega) (by simp;omega)).trans ((gZ1.block k (by omega) (by simp;omega)).trans (h3.block k (by omega) (by simp;omega)))⟩,(KeepsG.grown (F:=F) gZ1 (by rw [hF0];exact .inr (.inl rfl))).trans (KeepsG.grown (F:=F) gZ2 (by rw [hF0];exact .inr (.inr rfl)))⟩
   ·have hc:¬ (pre.length:Int)=4096:=dF hc;refine⟨_,zc (za h2) (i:=0) rfl,((pre.length+1:Nat):Int),(ze (by omega)).trans (by omega),zi k3 h2 (o:=0) (v:=i64 (pre.length+1:Nat)) rfl rfl (by show 0<1;decide) rfl fun Z fZ gZ sZ=>⟨_,⟨rfl,by omega,by rw [lap];show pre.length+1<=4096;omega,?_,zd h3 gZ⟩,KeepsG.grown (F:=F) gZ (by rw [hF0];exact .inl rfl)⟩⟩;rw [lap];exact fZ
  ·rintro D1 F Y hD hfD ⟨rfl,h1,h4,h2,h3⟩ hdef;refine⟨D1,(cvE rfl rfl),h4,h2,hdef,by omega,?_⟩;exact zd (zf hbW) h3
  ·rintro D ex pre F Y hD hfD hpre ⟨rfl,h1,rfl,hlong,g1,g2,hbY⟩ hdef;refine⟨_,rfl,hdef,.slice none 0 0,zc (za ((zg (by omega)).trans g1)) (i:=0) rfl,i64 5,zc (za ((zg (by omega)).trans g2)) (i:=0) rfl,.inr ⟨hlong,rfl⟩,?_⟩;have hwY:=hwW.trans (hbY.mono (by omega));exact qP hwY (by have:=hwV.size;omega) _
 clear fN sV;rintro D1 U ⟨hm,fN,fD1,hND,gU⟩;have old:∀ {k:Nat} {o:Obj},k≠N->V.heap[k]?=some o->U.heap[k]?=some o:=fun {k o} hne h=>(gU.block k (hlt h) (by simpa using hne)).trans h;have sU:=gU.size;have hNV:=hbV.size;have f1:=old (by omega) f1;have f2:=old (by omega) f2;have oD:OwnS zM 5 (L+3) U d cc D:=oD.kept gU fun g hg e=>by
  have:g<N:=dlt _ hg;simp only [Qc] at e;omega
 have hwU:Bw w U:=hwV.trans ⟨gU.os,gU.tape,gU.output,gU.size,fun k hk=>gU.block k (by have:=hwV.size;omega) (by simp;omega)⟩;clear f0 old gU hbV hwV;obtain⟨M,hM⟩:=nm (U.heap.size);have hDU:=hlt fD1;refine⟨OA×Nat,fun s=>⟨[(0,.slice q l.length cap),(1,.slice d D.length cc),(6,AtR (L+1)),(7,AtR (L+2)),(9,AtR (M+1))],[{ target := .collected D1,args := #[] }]⟩,fun s Z=>Z.heap[M+1]?=some (.cells [.slice s.1 0 s.2].toArray 78 (0,0))/\OwnS jG 73 M Z s.1 s.2 []/\(∀ a,s.1=some a->a.block=M)/\Z.heap.size=M+2/\Bw U Z,?_,?_⟩
 ·refine⟨_,zc (za fN) (i:=0) rfl,zcO (E:=jG) Tryz.underlying78 k73 rfl rfl rfl xs0.length (by show 104*_<=_;omega) (by unfold maxLen;omega) fun Z oZ hbZ' sZ'=>zn (X:=Z) (v := .slice (some ⟨U.heap.size,0,none⟩) 0 xs0.length) k78 rfl rfl rfl fun Z2 hbZ2 fZ2 sZ2=>?_⟩;rw [<- hM] at oZ sZ';rw [sZ'] at fZ2 sZ2;refine⟨(some ⟨M,0,none⟩,xs0.length),⟨.cons rfl (.cons rfl (.cons rfl (.cons rfl (.cons (by rw [<- sZ'];rfl) .nil)))),rfl⟩,by rw [hM] at fZ2 ⊢;exact fZ2,oZ.below hbZ2,fun a ha=>by cases ha;rfl,sZ2,hbZ'.trans (hbZ2.mono hbZ'.size)⟩
 clear fN;rintro⟨p0,c0⟩ V ⟨fV,oV,p0M,sV,hbV⟩;dsimp only at fV oV p0M;have f1:=zb hbV f1;have f2:=zb hbV f2;have fD1:=zb hbV fD1;have oD:=oD.below hbV;have hwV:=zst hwU hbV;have hMU:w.heap.size<=M:=by rw [hM];exact hwU.size
 have dlt2:∀ a,d=some a->a.block<N:=dlt;refine cmo ziw ?_;rintro e W ⟨rfl,fi,fd,sW,hbW⟩;have hwW:=zst hwV hbW;have hVM:Bw V W:=hbW;have hI:=ziv (q:=q) (p:=d) (hl.below hwW) (oD.below hbW).row fi fd (fun hne a ha=>by have:=hqb hne a ha;have:=hwW.size;omega) (fun a ha=>by have:=dlt a ha;omega) ht (by omega);rw [<- hxs0] at hI;refine zcK (zbe _) rfl (lb := #[AtR V.heap.size,AtR (V.heap.size+1)]) rfl rfl hI (UY _) (fun k hk=>⟨?_,rfl⟩) (fun pre vs W ⟨R,b,_,h,_⟩=>by rw [h];rfl) (by decide)
  (fun k=>k=M+1\/k=M) (JPa M W.heap.size (M+1) W) (fun _ _ _ _=>False) (fun k hk=>?_)
  (JPa.iter (by omega) rfl) (fun ex=>⟨fun _ _ _ _ h=>h.elim,fun _ _ _ _ h=>h.elim⟩) ⟨⟨UY _,.inl rfl,fun k hk=>by omega⟩,⟨[],p0,c0,zb hbW fV,⟨oV.below hbW,fun a ha => .inr (p0M a ha)⟩,rfl,fun x hx=>(by cases hx)⟩,Gd _ _⟩ ?_ ?_ ?_
 ·rcases hk with ((rfl | rfl) | ⟨hne,a,ha,rfl⟩ | ⟨a,ha,rfl⟩) | h
  ·omega
  ·omega
  ·have:=hqb hne a ha;have:=hwW.size;omega
  ·have:=dlt a ha;omega
  ·exact h.elim
 ·rcases hk with (rfl | rfl) | ⟨hne,a,ha,rfl⟩ | ⟨a,ha,rfl⟩
  ·omega
  ·omega
  ·have:=hqb hne a ha;omega
  ·have:=dlt a ha;omega
 ·rintro yl pre x vs F Y hyl hpre hJ ⟨R,b,hlast,rfl,fR⟩ hfy ⟨lo,hlo⟩;have hxR:x=R:=by simpa using hlast
  subst hxR;refine⟨rfl,F,KeepsG.refl _ _,hJ,?_⟩;rintro o Y2 hY2 ⟨⟨h1,h2,h3⟩,⟨xs,p,c,h4,h5,h6,h7⟩,h8⟩;have hbl:b≠yl:=fun e=>by
   rw [e] at fR;rw [fR] at hlo
   cases hlo
  have fR2:jq Y2 b x:=by rw [hY2];exact (zg hbl).trans fR
  have hmem:x∈xs0:=hpre.subset (by simp);obtain⟨r1,r2⟩:=hR x hmem;have hxl:xs.length=pre.length:=by
   have:=Gl List.length h6;rw [QQ,QQ] at this;exact this
  have hpl:pre.length<xs0.length:=by
   obtain⟨t,ht⟩:=hpre;rw [<- ht];simp only [lap,Qv];omega
  have hwY2:Bw w Y2:=hwW.trans (h8.mono hMU);have hd2:Bw Y2 Y2.drew:=(Gd _ _).drew;have hwY2d:Bw w Y2.drew:=zst hwY2 hd2;refine DrawE.ord [4,5] [0,1,2,3,4,5] (by kernel_rfl) ⟨_,zc (za (hdr h4)) (i:=0) rfl,cmo (zq2 (hdr fR2) r1 r2 (hG.t32.below hwY2d)) ?_⟩;rintro e Y3 ⟨⟨q1,k1,q2,k2,q3,k3,q4,k4,rfl,o1,o2,o3,o4⟩,hb3⟩;refine⟨hb3,?_⟩;obtain⟨nx,hnx⟩:∃ nx:zc0,nx=(za8 x,(q1,k1),(q2,k2),(q3,k3),(q4,k4)):=⟨_,rfl⟩;have hen:zgQ (za8 x) q1 k1 q2 k2 q3 k3 q4 k4=jG.enc nx:=by rw [hnx];rfl
  rw [hen];refine⟨⟨by decide,by decide,rfl⟩,jG.enc nx,za1 (jG.len nx) rfl,?_⟩;have hba:Bw Y3 (Y3.alloc (.cells (jG.enc nx).toArray 73)):=zba _ _;have sa:(Y3.alloc (.cells (jG.enc nx).toArray 73)).heap.size=Y3.heap.size+1:=wz _ _;have s3:Y2.heap.size<=Y3.heap.size:=hb3.size;refine⟨hba,?_⟩;have hb2:Bw Y2 (Y3.alloc (.cells (jG.enc nx).toArray 73)):=(hd2.trans hb3).trans (hba.mono s3);refine jA (E:=jG) (T:=73) (B:=M) (l:=xs) (news:=[nx]) (cap:=c) (m:=1) Tryz.underlying78 k73 rfl rfl rfl (h5.own.below hb2) rfl (qF jG nx) (by omega) (by omega) (by show (xs.length+1)*104<=_;omega) ?_;intro p2 c2 Y5 o5 g5 hb5 hat;have h4':Y5.heap[M+1]?=some (.cells [.slice p xs.length c].toArray 78 (0,0)):=by
   refine (g5.block (M+1) (hlt (zb hb2 h4)) fun e=>?_).trans (zb hb2 h4)
   cases hp:p with
   | none=>rw [hp] at e;simp [Value.ownBlock] at e
   | some a =>
    rw [hp] at e;simp only [Value.ownBlock,Qc] at e;obtain⟨_,_,cur,hcur⟩:=zao h5.own hp;rw [<- e] at hcur;rw [hcur] at h4;simp at h4
  refine zi k78 h4' (o:=0) (v := .slice p2 (xs++[nx]).length c2) rfl rfl (by show 0<1;decide) rfl fun Z fZ gZ sZ=>?_;have s5:=g5.size;have wr:∀ k,k<Y2.heap.size->k≠M+1->(∀ a,p=some a->k≠a.block)->Z.heap[k]?=Y2.heap[k]?:=fun k hk hne hnp=>by
   refine (gZ.block k (by omega) (by simpa using hne)).trans ((g5.block k (by omega) fun e=>?_).trans (hb2.block k hk))
   cases hp:p with
   | none=>rw [hp] at e;simp [Value.ownBlock] at e
   | some a =>
    rw [hp] at e;simp only [Value.ownBlock,Qc] at e;exact hnp a hp e
  have new:∀ k,Y2.heap.size<=k->k<Y3.heap.size->Z.heap[k]?=Y3.heap[k]?:=fun k hk1 hk2=>by
   refine (gZ.block k (by omega) (by simp;omega)).trans ((g5.block k (by omega) fun e=>?_).trans (hba.block k hk2))
   cases hp:p with
   | none=>rw [hp] at e;simp [Value.ownBlock] at e
   | some a =>
    rw [hp] at e;simp only [Value.ownBlock,Qc] at e;have:=h3 _ (h5.inF a hp);omega
  have tyne:∀ {α:Type} {E:Enc α} {T c:Nat} {r:OA} {B:Nat} {ll:List α},T≠73->T≠78->OwnS E T B Y2 r c ll->∀ a,r=some a->Z.heap[a.block]?=Y2.heap[a.block]?:=fun {α E T c r B ll} t1 t2 ho a ha=>by
   obtain⟨_,hl2,cur,hcur⟩:=zao ho ha;refine wr _ hl2 (fun e=>?_) (fun a' ha' e=>?_)
   ·rw [e,h4] at hcur;simp at hcur;exact t2 hcur.2.symm
   ·obtain⟨_,_,cur',hcur'⟩:=zao h5.own ha';rw [e,hcur'] at hcur;simp at hcur;exact t1 hcur.2.symm
  have inNew:∀ {α:Type} {E:Enc α} {T c:Nat} {r:OA} {ll:List α},OwnS E T Y2.drew.heap.size Y3 r c ll->RowIn E T W.heap.size (fun k=>F k\/(Y2.heap.size<=k/\k<Z.heap.size)) Z r c ll:=fun {α E T c r ll} ho=>by
   refine⟨OwnS.lower (ho.same fun a ha=>?_) h1,fun a ha=>?_⟩
   ·have:=zao ho ha;exact new _ this.1 this.2.1
   ·have h:=zao ho ha;have ha1:Y2.heap.size<=a.block:=h.1;exact .inr ⟨ha1,by have:=h.2.1;omega⟩
  refine⟨fun k=>F k\/(Y2.heap.size<=k/\k<Z.heap.size),⟨⟨by omega,.inl h2,fun k hk=>?_⟩,⟨xs++[nx],p2,c2,fZ,⟨o5.kept gZ fun g hg e=>?_,fun a ha=>?_⟩,?_,fun y hy=>?_⟩,?_⟩,⟨gZ.os.trans (g5.os.trans hb2.os),gZ.tape.trans (g5.tape.trans hb2.tape),gZ.output.trans (g5.output.trans hb2.output),by omega,fun k hk hf=>wr k hk (fun e=>hf (by rw [e];exact h2)) (fun a ha e=>hf (by rw [e];exact h5.inF a ha)),fun k hk=>hk.imp id fun h=>h.1⟩⟩
  ·rcases hk with hk | hk
   ·have:=h3 k hk;omega
   ·exact hk.2
  ·have:=zao o5 hg;obtain⟨_,_,cur,hcur⟩:=this;simp only [Qc] at e;have hcur:Y5.heap[g]?=_:=hcur;rw [<- e,h4'] at hcur;simp at hcur
  ·rcases hat a ha with h | h
   ·exact .inl (h5.inF a h)
   ·have:=(zao o5 ha).2.1;exact .inr ⟨by omega,by omega⟩
  ·rw [QT,h6,QT,hnx];rfl
  ·rcases QU.1 hy with hy | hy
   ·have h:=h7 y hy;have st:∀ {α:Type} {E:Enc α} {T c:Nat} {r:OA} {ll:List α},T≠73->T≠78->RowIn E T W.heap.size F Y2 r c ll->RowIn E T W.heap.size (fun k=>F k\/(Y2.heap.size<=k/\k<Z.heap.size)) Z r c ll:=fun {α E T c r ll} t1 t2 hh=>⟨hh.own.same fun a ha=>tyne t1 t2 hh.own a ha,fun a ha => .inl (hh.inF a ha)⟩;exact⟨st (by decide) (by decide) h.1,st (by decide) (by decide) h.2.1,st (by decide) (by decide) h.2.2.1,st (by decide) (by decide) h.2.2.2⟩
   ·simp only [KD] at hy;subst hy;rw [hnx];exact⟨inNew o1,inNew o2,inNew o3,inNew o4⟩
  ·refine h8.trans ⟨gZ.os.trans (g5.os.trans hb2.os),gZ.tape.trans (g5.tape.trans hb2.tape),gZ.output.trans (g5.output.trans hb2.output),by omega,fun k hk=>wr k (by omega) (by omega) fun a ha=>?_⟩;have:=(zao h5.own ha).1;omega
 ·rintro D2 F Y hD hfD ⟨⟨h1,h2,h3⟩,⟨xs,p,c,h4,h5,h6,h7⟩,h8⟩ hdef;have g1:Y.heap[L+1]?=some (.cells #[.slice none 0 0] 78 (0,0)):=(h8.block (L+1) (by omega)).trans (zb hbW f1);have g2:Y.heap[L+2]?=some (.cells #[i64 0] 34 (0,0)):=(h8.block (L+2) (by omega)).trans (zb hbW f2);have gD:Y.heap[D1]?=some (.deferred (some [])):=(h8.block D1 (by omega)).trans (zb hbW fD1);refine⟨_,zc (za h4) (i:=0) rfl,zi k78 g1 (o:=0) (v := .slice p xs.length c) rfl rfl (by show 0<1;decide) rfl fun Z1 fZ1 gZ1 sZ1=>?_⟩;have g2':=(gZ1.block (L+2) (hlt g2) (by simp)).trans g2;refine zi k34 g2' (o:=0) (v:=i64 0) rfl rfl (by show 0<1;decide) rfl fun Z2 fZ2 gZ2 sZ2=>?_;have hYs:M<Y.heap.size:=by omega
  have k2:∀ k,k<Y.heap.size->k≠L+1->k≠L+2->Z2.heap[k]?=Y.heap[k]?:=fun k hk n1 n2=>(gZ2.block k (by rw [sZ1];exact hk) (by simpa using n2)).trans (gZ1.block k hk (by simpa using n1));have hdef2:=(k2 D2 (hlt hdef) (by omega) (by omega)).trans hdef;have hD12:=(k2 D1 (hlt gD) (by omega) (by omega)).trans gD;have fZ1':=(gZ2.block (L+1) (hlt fZ1) (by simp)).trans fZ1;have neD:D1≠D2:=by omega
  refine⟨_,rfl,hdef2,_,rfl,(zg neD).trans hD12,?_⟩;obtain⟨Zf,hZf⟩:=nm ((Z2.putObj D2 (.deferred none)).putObj D1 (.deferred none));have kf:∀ k,k≠D1->k≠D2->Zf.heap[k]?=Z2.heap[k]?:=fun k n1 n2=>by rw [hZf];exact (zg n1).trans (zg n2)
  refine⟨.slice p xs.length c,?_,i64 0,?_,.inl ⟨xs,p,c,hm,rfl,h6,?_,fun x hx=>?_⟩,?_⟩
  ·exact zc (za (by rw [<- hZf];exact (kf (L+1) (by omega) (by omega)).trans fZ1')) (i:=0) rfl
  ·exact zc (za (by rw [<- hZf];exact (kf (L+2) (by omega) (by omega)).trans fZ2)) (i:=0) rfl
  ·rw [<- hZf];refine OwnS.lower (h5.own.same fun a ha=>?_) hMU;have h:=zao h5.own ha;have n1:a.block≠D2:=fun e=>by rw [<- e] at hfD;exact hfD (h5.inF a ha)
   exact (kf _ (by omega) n1).trans (k2 _ h.2.1 (by omega) (by omega))
  ·have h:=h7 x hx;have st:∀ {α:Type} {E:Enc α} {T c:Nat} {r:OA} {ll:List α},RowIn E T W.heap.size F Y r c ll->OwnS E T w.heap.size Zf r c ll:=fun {α E T c r ll} hh=>by
    refine OwnS.lower (hh.own.same fun a ha=>?_) hwW.size;have h:=zao hh.own ha;have n1:a.block≠D2:=fun e=>by rw [<- e] at hfD;exact hfD (hh.inF a ha)
    exact (kf _ (by omega) n1).trans (k2 _ h.2.1 (by omega) (by omega))
   rw [<- hZf];exact⟨st h.1,st h.2.1,st h.2.2.1,st h.2.2.2⟩
  ·have hwY:Bw w Y:=hwW.trans (h8.mono hMU);have b1:=(hwY.trans (zh gZ1 hwY.size (by omega))).trans (zh gZ2 (by rw [sZ1];exact hwY.size) (by omega));exact qP (qP b1 (by omega) _) (by omega) _
 ·rintro D ex pre F Y hD hfD hpre h;exact h.elim
end
section
variable {l:List InsD} {dom:List UInt8} {q p:OA} {cap cd:Nat} {w:Wd}
theorem zmc (hl:SlR zH w q l) (hp:SlR zM w p dom) (hok:qr l 6=true) (hqb:l≠[]->∀ a,q=some a->a.block<w.heap.size) (hpb:∀ a,p=some a->a.block<w.heap.size) (hdl:dom.length<=1000) :
  Calls PG 43 #[.slice q l.length cap,.slice p dom.length cd] w fun e w'=>((∃ (p':OA) (c':Nat),(jv l dom).length<=4096/\e = .returned (.tuple #[.slice p' (zah (jv l dom)).length c',.bool true])/\OwnS zM 5 w.heap.size w' p' c' (zah (jv l dom)))\/(4096<(jv l dom).length/\e = .returned (.tuple #[.slice none 0 0,.bool false])))/\Bw w w':=by
 have ht:=zki hok;have h12:l.length<=12:=ht.1;have hR:∀ R∈jv l dom,R.many<=24:=fun R h=>(zfy ht dom R h).1;refine qX 55 [.slice q l.length cap,.slice p dom.length cd] (.c .p (.c .p (.c .p (.c .p (.s .p (.c .p .p)))))) Tryz.func43 ?_;obtain⟨L,hL⟩:=nm (w.heap.size);refine⟨Unit,fun _=>⟨[(0,.slice q l.length cap),(1,.slice p dom.length cd),(4,AtR L),(5,AtR (L+1))],[]⟩,fun _ X=>X.heap[L]?=some (.cells #[.slice none 0 0] 23 (0,0))/\X.heap[L+1]?=some (.cells #[.bool false] 4 (0,0))/\X.heap.size=L+2/\Bw w X,?_,?_⟩
 ·have s1:=wz w (.cells #[.slice none 0 0] 23);have h2:=zz (w.alloc (.cells #[.slice none 0 0] 23)) (.cells #[.bool false] 4);have s2:=wz (w.alloc (.cells #[.slice none 0 0] 23)) (.cells #[.bool false] 4);rw [s1] at h2 s2;refine⟨(),⟨.cons rfl (.cons rfl (.cons (by rw [hL];rfl) (.cons (by rw [hL,<- s1];rfl) .nil))),rfl⟩,?_,?_,?_,?_⟩
  ·rw [hL];exact qG _ (zz w _)
  ·rw [hL];exact h2
  ·rw [hL];exact s2
  ·exact ((zba w _)).alloc (by simp) _
 rintro _ X ⟨f0,f1,sX,hbX⟩;refine⟨Unit,fun _=>⟨[(0,.slice q l.length cap),(1,.slice p dom.length cd),(4,AtR L),(5,AtR (L+1)),(6,AtR (L+2))],[]⟩,fun _ Y=>Y.heap[L+2]?=some (.cells (wrC fun _=>false).toArray 150 (0,0))/\Y.heap.size=L+3/\Bw X Y,?_,?_⟩
 ·refine⟨(),⟨.cons rfl (.cons rfl (.cons rfl (.cons rfl (.cons (by rw [<- sX];rfl) .nil)))),rfl⟩,?_,?_,?_⟩
  ·rw [<- sX,<- zsr];exact zz X _
  ·have:=wz X (.cells (List.replicate 256 (Value.bool false)).toArray 150);rw [sX] at this;exact this
  ·exact (zba X _)
 rintro _ Y ⟨f2,sY,hbY⟩;refine⟨Unit,fun _=>⟨[(0,.slice q l.length cap),(1,.slice p dom.length cd),(4,AtR L),(5,AtR (L+1)),(6,AtR (L+2)),(7,AtR (L+3))],[]⟩,fun _ Z=>Z.heap[L+3]?=some (.cells [i64 (0:Nat)].toArray 3 (0,0))/\Z.heap.size=L+4/\Bw Y Z,?_,?_⟩
 ·refine zn (X:=Y) (v:=i64 0) k3 rfl rfl rfl fun Z hbZ fZ sZ=>?_;rw [sY] at fZ sZ;exact⟨(),⟨.cons rfl (.cons rfl (.cons rfl (.cons rfl (.cons rfl (.cons (by rw [<- sY];rfl) .nil))))),rfl⟩,fZ,sZ,hbZ⟩
 rintro _ V ⟨f3,sV,hbV⟩;have hXV:Bw X V:=zst hbY hbV;have hwV:=zst hbX hXV;have f0:=zb hXV f0;have f1:=zb hXV f1;have f2:=zb hbV f2;clear hbX hbY hbV hXV;obtain⟨xs,hxs⟩:=nm (jv l dom);rw [<- hxs] at hR ⊢;refine⟨Nat,fun D1=>⟨[(4,AtR L),(5,AtR (L+1)),(6,AtR (L+2))],[{ target := .collected D1,args := #[] }]⟩,fun D1 U=>xs.length<=4096/\U.heap[L+2]?=some (.cells (wrC (wrL xs)).toArray 150 (0,0))/\U.heap[D1]?=some (.deferred (some []))/\L+2<D1/\Below (L+2) V U,?_,?_⟩
 ·refine cmo ziw ?_;rintro e W ⟨rfl,fi,fd,sW,hbW⟩;have hwW:=zst hwV hbW;have hI:=ziv (q:=q) (p:=p) (hl.below hwW) (hp.below hwW) fi fd (fun hne a ha=>by have:=hqb hne a ha;have:=hwW.size;omega) (fun a ha=>by have:=hpb a ha;have:=hwW.size;omega) ht hdl;rw [<- hxs] at hI;obtain⟨J,hJ⟩:∃ J:List RunD->Wd->Prop,J=fun pre Y=>W.heap.size<=Y.heap.size/\pre.length<=4096/\Y.heap[L+2]?=some (.cells (wrC (wrL pre)).toArray 150 (0,0))/\Y.heap[L+3]?=some (.cells [i64 pre.length].toArray 3 (0,0))/\Below (L+2) W Y:=⟨_,rfl⟩;obtain⟨F0,hF0⟩:∃ F0:Nat->Prop,F0=fun k=>k=L+2\/k=L+3\/k=L\/k=L+1:=⟨_,rfl⟩;have f0W:=zb hbW f0;have f1W:=zb hbW f1;refine zcK (zbe _) rfl (lb := #[AtR V.heap.size,AtR (V.heap.size+1)]) rfl rfl hI (UY _) (fun k hk=>⟨?_,rfl⟩) (fun pre vs W ⟨R,b,_,h,_⟩=>by rw [h];rfl) (by decide)
   F0 (fun pre F Y=>F=F0/\J pre Y) (fun ex pre F Y=>F=F0/\W.heap.size<=Y.heap.size/\ex = .ret/\4096<xs.length/\Y.heap[L]?=some (.cells #[.slice none 0 0] 23 (0,0))/\Y.heap[L+1]?=some (.cells #[.bool false] 4 (0,0))/\Below L W Y) (fun k hk=>?_)
   (joG (F:=F0) (J:=J) (fun k h=>by rw [hF0] at h;omega) (fun s A h=>by rw [hJ] at h;exact h.1) (fun pre A B h hb=>by
    rw [hJ] at h ⊢;obtain⟨h1,h0,h2,h3,h4⟩:=h;exact⟨UO h1 hb.size,h0,jg hb (by omega) h2,jg hb (by omega) h3,h4.trans (hb.mono (by omega))⟩))
   (fun ex=>joG (F:=F0) (J:=fun (pre:List RunD) Y=>W.heap.size<=Y.heap.size/\ex = .ret/\4096<xs.length/\Y.heap[L]?=some (.cells #[.slice none 0 0] 23 (0,0))/\Y.heap[L+1]?=some (.cells #[.bool false] 4 (0,0))/\Below L W Y) (fun k h=>by rw [hF0] at h;omega) (fun s A h=>h.1) (fun pre A B ⟨h1,h2,h3,h4,h5,h6⟩ hb=>⟨UO h1 hb.size,h2,h3,jg hb (by omega) h4,jg hb (by omega) h5,h6.trans (hb.mono (by omega))⟩)) ⟨rfl,by rw [hJ];exact⟨UY _,Gb _,zb hbW f2,zb hbW f3,Gd _ _⟩⟩ ?_ ?_ ?_
  ·rcases hk with ((rfl | rfl) | ⟨hne,a,ha,rfl⟩ | ⟨a,ha,rfl⟩) | h
   ·omega
   ·omega
   ·have:=hqb hne a ha;have:=hwW.size;omega
   ·have:=hpb a ha;have:=hwW.size;omega
   ·exact h.elim
  ·rw [hF0];rcases hk with (rfl | rfl) | ⟨hne,a,ha,rfl⟩ | ⟨a,ha,rfl⟩
   ·omega
   ·omega
   ·have:=hqb hne a ha;omega
   ·have:=hpb a ha;omega
  ·rintro yl pre x vs F Y hyl hpre hJ0 ⟨R,b,hlast,rfl,fR⟩ hfy ⟨lo,hlo⟩;have hxR:x=R:=by simpa using hlast
   subst hxR;refine⟨rfl,F,KeepsG.refl _ _,hJ0,?_⟩;rintro o Y2 hY2 ⟨rfl,hJ2⟩;rw [hJ] at hJ2;obtain⟨h1,h0,h2,h3,h4⟩:=hJ2;have hbl:b≠yl:=fun e=>by
    rw [e] at fR;rw [fR] at hlo
    cases hlo
   have fR2:jq Y2 b x:=by rw [hY2];exact (zg hbl).trans fR
   have r1:=hR x (hpre.subset (by simp));have hpl:pre.length<xs.length:=by
    obtain⟨t,ht⟩:=hpre;rw [<- ht];simp only [lap,Qv];omega
   refine⟨_,zc (za h3) (i:=0) rfl,?_⟩;refine biE (fun hct=>?_) fun hct=>?_
   ·have hct:(pre.length:Int)=4096:=dT hct;have g0:Y2.heap[L]?=some (.cells #[.slice none 0 0] 23 (0,0)):=(h4.block L (by omega)).trans f0W;have g1:Y2.heap[L+1]?=some (.cells #[.bool false] 4 (0,0)):=(h4.block (L+1) (by omega)).trans f1W;refine zi k23 g0 (o:=0) (v := .slice none 0 0) rfl rfl (by show 0<1;decide) rfl fun Z1 fZ1 gZ1 sZ1=>?_;have g1':=(gZ1.block (L+1) (hlt g1) (by simp)).trans g1;refine zi k4 g1' (o:=0) (v := .bool false) rfl rfl (by show 0<1;decide) rfl fun Z2 fZ2 gZ2 sZ2=>?_;refine⟨F,⟨rfl,by omega,rfl,by omega,(gZ2.block L (hlt fZ1) (by simp)).trans fZ1,fZ2,?_⟩,(KeepsG.grown (F:=F) gZ1 (by rw [hF0];exact .inr (.inr (.inl rfl)))).trans (KeepsG.grown (F:=F) gZ2 (by rw [hF0];exact .inr (.inr (.inr rfl))))⟩;exact ((h4.mono (by omega)).trans (zh gZ1 (by omega) (UY _))).trans (zh gZ2 (by omega) (by omega))
   have hct:¬ (pre.length:Int)=4096:=dF hct;refine⟨_,zc (za h3) (i:=0) rfl,?_⟩;refine⟨((pre.length+1:Nat):Int),(ze (by omega)).trans (by omega),?_⟩;refine zi k3 h3 (o:=0) (v:=i64 (pre.length+1:Nat)) rfl rfl (by show 0<1;decide) rfl fun Z fZ gZ sZ=>?_;have fRZ:jq Z b x:=(gZ.block b (hlt fR2) (fun e=>by
    have e:b=L+3:=(by simpa using e);rw [e] at fR2;rw [fR2] at h3;simp at h3)).trans fR2
   have f2Z:=(gZ.block (L+2) (hlt h2) (by simp)).trans h2;have kZ:KeepsG F F Y2 Z:=KeepsG.grown gZ (by rw [hF0];exact .inr (.inl rfl));have bZ:Below (L+2) W Z:=h4.trans (zh gZ (by omega) (by omega));refine DrawE.ord [] [0,1,2,3,4,5,6,7,8,9] (by kernel_rfl) ?_;have hdZ:Bw Z Z.drew:=(Gd _ _).drew;refine⟨_,zc (za (hdr fRZ)) (i:=18) (zbr x),?_⟩;refine⟨x.many,rfl,r1,?_⟩;have ecut:jd (some ⟨b,0+19,none⟩) 24 0 7=some ⟨b,19,none⟩:=by rw [zcv,UT]
   refine⟨Nat,fun i=>⟨[(6,AtR (L+2)),(7,AtR (L+3)),(29,.slice (some ⟨b,19,none⟩) (x.many-0) (24-0)),(30,i64 (x.many:Nat)),(31,i64 (i:Nat))],[]⟩,
    fun i T=>i<=x.many/\T.heap[L+2]?=some (.cells (wrC fun v=>wrL pre v||wrE x i v).toArray 150 (0,0))/\jq T b x/\T.heap[L+3]?=some (.cells [i64 (pre.length+1:Nat)].toArray 3 (0,0))/\KeepsG F F Y2 T/\Below (L+2) W T,fun i=>x.many-i,0,
    ⟨.cons rfl (.cons rfl (.cons (by rw [<- ecut];rfl) (.cons rfl (.cons rfl .nil)))),rfl⟩,⟨Gb _,?_,hdr fRZ,hdr fZ,kZ.trans (KeepsG.below hdZ fun k h => .inl h),bZ.drew⟩,?_⟩
   ·have e:(fun v=>wrL pre v||wrE x 0 v)=wrL pre:=by
     funext v;show (wrL pre v||false)=_;rw [Uz]
    rw [e];exact f2Z
   rintro i T ⟨hi,t2,tR,t3,kT,bT⟩;have hTs:=kT.size;refine biE (fun hc=>?_) fun hc=>?_
   ·have hc:(i:Int)<(x.many:Int):=dT hc;have him:i<x.many:=(by omega);refine⟨i,rfl,him,?_⟩;have hev:zx T ⟨b,19+i*7,none⟩ (evE.enc (x.ev i)):=by
     have:=zK (n:=i*7) (m:=7) (zlp tR);rw [zot x.ev (show i<24 by omega)] at this;exact this
    refine⟨evE.enc (x.ev i),rfl,hev,hlt tR,?_⟩;refine zn (X:=T) (v := .agg (evE.enc (x.ev i)).toArray) k60 rfl rfl rfl fun T2 hb2 fT2 sT2=>?_;have k2:KeepsG F F Y2 T2:=kT.trans (KeepsG.below hb2 fun k h => .inl h);have b2:Below (L+2) W T2:=bT.trans (hb2.mono (by omega));have n1:=zng x i;refine⟨_,zc (za fT2) (i:=1) rfl,?_⟩;have u2:=zb hb2 t2;have uR:=zb hb2 tR;have u3:=zb hb2 t3;refine biE (fun hk=>?_) fun hk=>?_
    ·have hk:(x.ev i).k=2:=jh.1 (dT hk);refine⟨_,zc (za fT2) (i:=3) rfl,?_⟩;refine⟨((x.ev i).v).toNat,rfl,((x.ev i).v).toNat_lt,?_⟩;refine zi k4 u2 (o:=0+((x.ev i).v).toNat*1) (v := .bool true) rfl rfl (by rw [zlh];have:=((x.ev i).v).toNat_lt;omega) rfl fun T3 fT3 gT3 sT3=>?_;rw [UT,UZ,zpi] at fT3;have k3:KeepsG F F Y2 T3:=k2.trans (KeepsG.grown gT3 (by rw [hF0];exact .inl rfl));have hT2s:=k2.size;refine nxI (by omega) ?_;refine⟨i+1,(cvE rfl rfl),⟨him,?_,(gT3.block b (hlt uR) (fun e=>by
      have e:b=L+2:=(by simpa using e);rw [e] at uR;rw [uR] at u2;simp at u2)).trans uR,(gT3.block (L+3) (hlt u3) (by simp)).trans u3,k3,b2.trans (zh gT3 (by omega) (UY _))⟩,zdc (by omega)⟩
     have e:(fun v=>wrL pre v||wrE x (i+1) v)=fun v=>(wrL pre v||wrE x i v)||decide ((x.ev i).v=v):=by
      funext v;rw [n1,Uu hk,UA,Bool.or_assoc]
     rw [e];exact fT3
    ·have hk:¬ (x.ev i).k=2:=fun e=>(dF hk) (by rw [e];rfl);refine nxI (by omega) ?_;refine⟨i+1,(cvE rfl rfl),⟨him,?_,uR,u3,k2,b2⟩,zdc (by omega)⟩;have e:(fun v=>wrL pre v||wrE x (i+1) v)=fun v=>(wrL pre v||wrE x i v):=by
      funext v;rw [n1,Uj hk,Ul,Uz]
     rw [e];exact u2
   ·have hc:¬ (i:Int)<(x.many:Int):=dF hc;obtain rfl:i=x.many:=(by omega);refine⟨F,⟨rfl,?_⟩,kT⟩;rw [hJ];refine⟨by omega,by rw [lap];show pre.length+1<=4096;omega,?_,by rw [lap];exact t3,bT⟩;have e:wrL (pre++[x])=fun v=>wrL pre v||wrE x x.many v:=by
     funext v;exact zne pre x v
    rw [e];exact t2
  ·rintro D1 F Y hD hfD ⟨rfl,hj⟩ hdef;rw [hJ] at hj;obtain⟨h1,h0,h2,h3,h4⟩:=hj;exact⟨D1,(cvE rfl rfl),h0,h2,hdef,by omega,(hbW.mono (by omega)).trans h4⟩
  ·rintro D ex pre F Y hD hfD hpre ⟨rfl,h1,rfl,hlong,g0,g1,hbY⟩ hdef;refine⟨_,rfl,hdef,?_⟩;refine⟨.slice none 0 0,zc (za ((zg (by omega)).trans g0)) (i:=0) rfl,.bool false,zc (za ((zg (by omega)).trans g1)) (i:=0) rfl,.inr ⟨hlong,rfl⟩,?_⟩;have hwY:=hwW.trans (hbY.mono (by omega));exact qP hwY (by have:=hwV.size;omega) _
 clear f2 f3;rintro D1 U ⟨hm,f2,fD1,hLD,bU⟩;have f0:U.heap[L]?=some (.cells #[.slice none 0 0] 23 (0,0)):=(bU.block L (by omega)).trans f0;have f1:U.heap[L+1]?=some (.cells #[.bool false] 4 (0,0)):=(bU.block (L+1) (by omega)).trans f1;have hwU:Bw w U:=hwV.trans (bU.mono (by omega));have sU:=hlt f2;have sD:=hlt fD1;clear bU hwV;refine⟨List UInt8×OA×Nat,fun s=>⟨[(4,AtR L),(5,AtR (L+1)),(11,.slice s.2.1 s.1.length s.2.2)],[{ target := .collected D1,args := #[] }]⟩,fun s Z=>s.1=zah xs/\OwnS zM 5 U.heap.size Z s.2.1 s.2.2 s.1/\Bw U Z,?_,?_⟩
 ·refine⟨wrC (wrL xs),zlh _,za f2,hlt f2,?_⟩;refine⟨Nat×OA×Nat,fun s=>⟨[(4,AtR L),(5,AtR (L+1)),(11,.slice s.2.1 ((zO.take s.1).filter (wrL xs)).length s.2.2),(42,.agg (wrC (wrL xs)).toArray),(43,i64 (s.1:Nat))],[{ target := .collected D1,args := #[] }]⟩,
   fun s Z=>s.1<=256/\OwnS zM 5 U.heap.size Z s.2.1 s.2.2 ((zO.take s.1).filter (wrL xs))/\Bw U Z,fun s=>256-s.1,(0,none,0),
   (cvE rfl rfl),⟨Gb _,OwnS.nil,Gd _ _⟩,?_⟩
  rintro⟨k,r,c⟩ Z ⟨hk,ho,hbZ⟩;dsimp only at hk ho ⊢;have hZs:=hbZ.size;refine biE (fun hc=>?_) fun hc=>?_
  ·have hc:(k:Int)<256:=dT hc;have hk2:k<256:=by omega
   have tk:zO.take (k+1)=zO.take k++[UInt8.ofNat k]:=by
    obtain⟨hlb,hbk⟩:=zoQ hk2;rw [tsg hlb,hbk]
   have fl:(zO.take (k+1)).filter (wrL xs)=(zO.take k).filter (wrL xs)++(if wrL xs (UInt8.ofNat k)=true then [UInt8.ofNat k] else []):=by
    rw [tk,Ky,zkP]
   have hfl:((zO.take k).filter (wrL xs)).length<=256:=by
    have h1:=JO (wrL xs) (zO.take k);rw [Qx] at h1;omega
   refine⟨k,rfl,hk2,?_⟩;refine zae (by rw [UZ];exact zke _ hk2) ?_;refine biE (fun hv=>?_) fun hv=>?_
   ·rw [Gr hv] at fl;refine⟨_,w8N k,?_⟩;refine⟨⟨by decide,by decide,rfl⟩,zM.enc (UInt8.ofNat k),rfl,?_⟩;have hba:Bw Z (Z.alloc (.cells (zM.enc (UInt8.ofNat k)).toArray 5)):=zba _ _;refine jA (E:=zM) (T:=5) (B:=U.heap.size) (l:=(zO.take k).filter (wrL xs)) (news:=[UInt8.ofNat k]) (cap:=c) (m:=1) Tryz.underlying23 k5 rfl rfl rfl (ho.below hba) rfl (qF zM (UInt8.ofNat k)) (by have:=hba.size;omega) (by omega) (by show (((zO.take k).filter (wrL xs)).length+1)*1<=_;omega) ?_;intro p2 c2 T oT gT hbT hat;refine nxI (by omega) ?_;refine⟨(k+1,p2,c2),⟨.cons rfl (.cons rfl (.cons (by rw [fl];rfl) (.cons rfl (.cons rfl .nil)))),rfl⟩,⟨hk2,by show OwnS zM _ _ _ _ _ ((zO.take (k+1)).filter (wrL xs));rw [fl];exact oT,(hbZ.trans (hba.mono hZs)).trans hbT⟩,zdc (by omega)⟩
   ·have hv:wrL xs (UInt8.ofNat k)=false:=hv;rw [hv,Gq Kx,QM] at fl;refine nxI (by omega) ?_;exact⟨(k+1,r,c),⟨.cons rfl (.cons rfl (.cons (by rw [fl];rfl) (.cons rfl (.cons rfl .nil)))),rfl⟩,⟨hk2,by show OwnS zM _ _ _ _ _ ((zO.take (k+1)).filter (wrL xs));rw [fl];exact ho,hbZ⟩,zdc (by omega)⟩
  ·have hc:¬ (k:Int)<256:=dF hc;obtain rfl:k=256:=by omega
   have e:(zO.take 256).filter (wrL xs)=zah xs:=by
    rw [zkd,JJ (by unfold zO;rw [QQ,KY];exact UY _)]
   rw [e] at ho;exact⟨(zah xs,r,c),⟨.cons rfl (.cons rfl (.cons (by rw [e];rfl) .nil)),rfl⟩,rfl,ho,hbZ⟩
 rintro⟨ys,r,c⟩ Z ⟨rfl,ho,hbZ⟩;dsimp only at ho ⊢;have hZs:=hbZ.size;have g0:=zb hbZ f0;have g1:=zb hbZ f1;have gD:=zb hbZ fD1;refine zi k23 g0 (o:=0) (v := .slice r (zah xs).length c) rfl rfl (by show 0<1;decide) rfl fun Z1 fZ1 gZ1 sZ1=>?_;have g1':=(gZ1.block (L+1) (hlt g1) (by simp)).trans g1;refine zi k4 g1' (o:=0) (v := .bool true) rfl rfl (by show 0<1;decide) rfl fun Z2 fZ2 gZ2 sZ2=>?_;have k2:∀ k,k<Z.heap.size->k≠L->k≠L+1->Z2.heap[k]?=Z.heap[k]?:=fun k hk n1 n2=>(gZ2.block k (by rw [sZ1];exact hk) (by simpa using n2)).trans (gZ1.block k hk (by simpa using n1));have fZ1':=(gZ2.block L (hlt fZ1) (by simp)).trans fZ1;refine⟨_,rfl,(k2 D1 (hlt gD) (by omega) (by omega)).trans gD,?_⟩;refine⟨.slice r (zah xs).length c,?_,.bool true,?_,.inl ⟨r,c,hm,rfl,?_⟩,?_⟩
 ·exact zc (za ((zg (by omega)).trans fZ1')) (i:=0) rfl
 ·exact zc (za ((zg (by omega)).trans fZ2)) (i:=0) rfl
 ·refine OwnS.lower (ho.same fun a ha=>?_) hwU.size;have h:=zao ho ha;exact (zg (by omega)).trans (k2 _ h.2.1 (by omega) (by omega))
 ·have hwZ:=zst hwU hbZ;exact qP ((hwZ.trans (zh gZ1 hwZ.size (by omega))).trans (zh gZ2 (by rw [sZ1];exact hwZ.size) (by omega))) (by omega) _
end
structure OkG (p:Prg):Prop where
 l1:1<=p.locs.length
 l6:p.locs.length<=6
 il:p.locs.length=p.init.length
 t1:1<=p.threads.length
 t4:p.threads.length<=4
 th:∀ l∈p.threads,qr l 6=true
 tl:∀ l∈p.threads,qr l p.locs.length=true
theorem OkG.i1 {p:Prg} (h:OkG p):1<=p.init.length:=by have:=h.l1;have:=h.il;omega
theorem OkG.i6 {p:Prg} (h:OkG p):p.init.length<=6:=by have:=h.l6;have:=h.il;omega
theorem zmM {x:InsD} {k k' n:Nat} (hk:k<=k') (h:zgU x k n=true):zgU x k' n=true:=by
 unfold zgU qJ at h ⊢;simp only [UC,List.all_nil,id_eq,Bool.and_true,bAT,dE,QJ] at h ⊢;obtain⟨h1,h2,h3,h4,h5⟩:=h;exact⟨h1,h2,h3,h4.imp id (fun h=>nL h hk),h5⟩
theorem zhZ {l:List InsD} {k k':Nat} (hk:k<=k') (h:qr l k=true):qr l k'=true:=by
 unfold qr at h ⊢;rw [bAT,dE,Qm] at h ⊢;refine⟨h.1,fun i hi=>?_⟩;have:=h.2 i hi
 split at this
 ·exact zmM hk this
 ·rfl
theorem zc7 {p:Prg} (h:zcC p=true):OkG p:=by
 unfold zcC at h;simp only [bAT] at h;obtain⟨_,h2,⟨h4a,h4b,h5⟩,h6,_,h8⟩:=h;unfold zdq at h2;simp only [bAT,dE] at h2 h4a h4b;have h7:=Qm.1 h6;exact⟨h2.1,h2.2.1,h2.2.2.1.symm,h4a,h4b,fun l hl=>zhZ h2.2.1 (h7 l hl),h7⟩
def zg5 (threads:List (List InsD)):Nat->List UInt8->Option (List UInt8)
 | 0,_=>none
 | n+1,vals=>if 16<vals.length then none else if (threads.any fun l=>decide (4096<(jv l vals).length))=true then none else if (zbb threads vals).length=vals.length then some vals else zg5 threads n (zbb threads vals)
def zc3 (p:Prg):Option (List UInt8):=zg5 p.threads 18 (je p.init)
theorem zcu (l:List UInt8):je (je l)=je l:=zix (zgC l)
theorem zhI {l:List UInt8} (h:1<=l.length):1<=(je l).length:=by
 cases l with
 | nil=>simp at h
 | cons x r=>exact List.length_pos_of_mem (zeR.2 (KC ..))
theorem ziR (rs:List RunD):(zah rs).length<=256:=by
 refine UO (JO ..) ?_;unfold zO;rw [QQ,KY];exact UY _
theorem zlQ {α β:Type} {g:α->List β} (hg:∀ a,(g a).length<=256):∀ l:List α,(l.flatMap g).length<=256*l.length
 | []=>UY _
 | a::l=>by
  rw [KV,lap,Qv];have:=hg a;have:=zlQ hg l;omega
theorem zoy {a b:List UInt8} (h:∀ x,x∈a->x∈b):(je a).length<=(je b).length:=by
 unfold je;rw [<- List.countP_eq_length_filter,<- List.countP_eq_length_filter];refine List.countP_mono_left fun x _ hx=>?_;obtain⟨y,hy,e⟩:=Qn.1 hx;exact Qn.2 ⟨y,h y hy,e⟩
theorem zhE (ths:List (List InsD)) {vals:List UInt8} (h:je vals=vals):vals.length<=(zbb ths vals).length:=by
 unfold zbb
 conv=>lhs;rw [<- h]
 exact zoy fun x hx=>JZ _ hx
section
variable {B:Nat} {p:Prg} {pc:List Value} {w:Wd}
theorem zm8 (hB:B<=w.heap.size) (hP:PrgX B w pc p) (hG:GlobE w) (hok:zcC p=true) :
  Calls PG 22 #[.agg pc.toArray,i64 16] w fun e w'=>((∃ (V:List UInt8) (q:OA) (c:Nat),zc3 p=some V/\e = .returned (.tuple #[.slice q V.length c,i64 0])/\OwnS zM 5 w.heap.size w' q c V)\/(zc3 p=none/\e = .returned (.tuple #[.slice none 0 0,i64 5])))/\Bw w w':=by
 have hOP:=zc7 hok;have hi1:=hOP.i1;have hi6:=hOP.i6;refine qX 60 [.agg pc.toArray,i64 16] (.c .p (.s .p (.c .p .p))) Tryz.func22 ?_;obtain⟨L,hL⟩:=nm (w.heap.size);have hpc:=hP.v.size;have hthr:=hP.v.len.threads;refine⟨Unit,fun _=>⟨[(1,i64 16),(2,AtR L)],[]⟩,fun _ X=>X.heap[L]?=some (.cells pc.toArray 29 (0,0))/\Bw w X,⟨(),⟨.cons rfl (.cons (by rw [hL];rfl) .nil),rfl⟩,by rw [hL];exact zz w _,(zba w _)⟩,?_⟩;rintro _ X ⟨f0,hbX⟩;refine brF (brF ⟨pc,hpc,za f0,hlt f0,cmo (ziM (UO hB hbX.size) (hP.v.below (hbX.mono hB)) (hG.c.below hbX)) ?_⟩);rintro e Y ⟨m,rfl,hm,hbY⟩;have hm0:m=0:=hm.2 hok;subst hm0;refine brF ?_;have hwY:=zst hbX hbY;have f0:=zb hbY f0;obtain⟨_,⟨p3,c3,h3,xs,hxs,zec,hxr⟩,⟨p2,c2,h2,hinit⟩⟩:=hP;refine⟨OA×Nat,fun s=>⟨[(1,i64 16),(2,AtR L),(6,.slice s.1 (je p.init).length s.2)],[]⟩,fun s Z=>OwnS zM 5 w.heap.size Z s.1 s.2 (je p.init)/\Z.heap[L]?=some (.cells pc.toArray 29 (0,0))/\Bw w Z,?_,?_⟩
 ·refine⟨_,zc (za f0) (i:=2) (by simpa using h2),cmo (zcU ((hinit.below (hwY.mono hB)).slr (UO hB hwY.size)) hi1 (by omega)) ?_⟩;rintro e Z ⟨⟨q,c,rfl,ho⟩,hbZ⟩;exact⟨(q,c),(cvE rfl rfl),OwnS.lower ho hwY.size,zb hbZ f0,(zst hwY hbZ)⟩
 rintro⟨q,c⟩ X ⟨ho,f0,hbX⟩;obtain⟨R,hR⟩:=nm (zc3 p);rw [<- hR];refine⟨List UInt8×OA×Nat,fun s=>⟨[(1,i64 16),(2,AtR L),(6,.slice s.2.1 s.1.length s.2.2)],[]⟩,
  fun s Z=>((1<=s.1.length/\je s.1=s.1)/\∃ n,18<=n+s.1.length/\zg5 p.threads n s.1=R)/\OwnS zM 5 w.heap.size Z s.2.1 s.2.2 s.1/\Z.heap[L]?=some (.cells pc.toArray 29 (0,0))/\Bw w Z,fun s=>300-s.1.length,(je p.init,q,c),
  (cvE rfl rfl),⟨⟨⟨zhI hi1,zcu _⟩,18,QB _ _,hR.symm⟩,ho,f0,hbX⟩,?_⟩
 rintro⟨vals,q,c⟩ X ⟨⟨⟨hv1,hvd⟩,n,hn,hQ⟩,ho,f0,hbX⟩;dsimp only at hv1 hvd hn hQ ho ⊢;have hv256:vals.length<=256:=by rw [<- hvd];exact zdi _
 refine biE (fun h16=>?_) fun h16=>?_
 ·have h16:(16:Int)<(vals.length:Int):=dT h16;have e:R=none:=by
   rw [<- hQ]
   cases n with
   | zero=>rfl
   | succ n=>exact Gr (by omega)
  exact⟨.inr ⟨e,rfl⟩,hbX⟩
 have h16:¬ (16:Int)<(vals.length:Int):=dF h16;obtain⟨k,rfl⟩:∃ k,n=k+1:=⟨n-1,by omega⟩;have hQ:(if 16<vals.length then none else if (p.threads.any fun l=>decide (4096<(jv l vals).length))=true then none else if (zbb p.threads vals).length=vals.length then some vals else zg5 p.threads k (zbb p.threads vals))=R:=hQ;rw [Gq (by omega)] at hQ;have hq0:q=none->c=0:=fun e=>by
  rcases ho.inv with ⟨_,h,_⟩ | ⟨g,_,h,_⟩
  ·exact h
  ·rw [e] at h;cases h
 have hqb:∀ a,q=some a->a.block<X.heap.size:=fun a ha=>(zao ho ha).2.1;refine cmo (zka ho.row (by omega) hq0) ?_;rintro e Y ⟨⟨q1,k1,rfl,o1⟩,hbY⟩;have hwY:=zst hbX hbY;have f0Y:=zb hbY f0;have hl3:xs.length=p.threads.length:=by rw [<- hxs,QQ]
 refine⟨_,zc (za f0Y) (i:=3) (by simpa using h3),?_⟩;obtain⟨g,hg⟩:∃ g:List InsD->List UInt8,g=fun l=>zah (jv l vals):=⟨_,rfl⟩;have hnx:zbb p.threads vals=je (vals++p.threads.flatMap g):=by unfold zbb;rw [hg]
 have hgl:∀ l,(g l).length<=256:=fun l=>by rw [hg];exact ziR _
 have hth4:=hOP.t4;refine⟨Nat×OA×Nat,fun s=>⟨[(1,i64 16),(2,AtR L),(6,.slice q vals.length c),(7,.slice s.2.1 (vals++(p.threads.take s.1).flatMap g).length s.2.2),(33,.slice p3 p.threads.length c3),(34,i64 p.threads.length),(35,i64 (s.1:Nat))],[]⟩,
  fun s Z=>(s.1<=p.threads.length/\∀ l∈p.threads.take s.1,(jv l vals).length<=4096)/\OwnS zM 5 X.heap.size Z s.2.1 s.2.2 (vals++(p.threads.take s.1).flatMap g)/\Bw X Z,fun s=>p.threads.length-s.1,(0,q1,k1),
  ⟨.cons rfl (.cons rfl (.cons rfl (.cons (by rw [Ur,Qs,QM];rfl) (.cons rfl (.cons rfl (.cons rfl .nil)))))),rfl⟩,⟨⟨Gb _,fun l hl=>by cases hl⟩,by show OwnS zM _ _ _ _ _ (vals++(p.threads.take 0).flatMap g);rw [Ur,Qs,QM];exact o1,hbY⟩,?_⟩
 rintro⟨m,q1,k1⟩ Y ⟨⟨hm,hsm⟩,o1,hbY⟩;dsimp only at hm hsm o1 ⊢;have hwY:=zst hbX hbY;have f0Y:=zb hbY f0;have hXY:=hbY.size;have lenTake:∀ j,(vals++(p.threads.take j).flatMap g).length<=1280:=fun j=>by
  have h1:=zlQ hgl (p.threads.take j);rw [Qx] at h1;rw [lap];omega
 refine biE (fun hc=>?_) fun hc=>?_
 ·have hc:(m:Int)<(p.threads.length:Int):=dT hc;have hmt:m<p.threads.length:=by omega
  have hmx:m<xs.length:=by omega
  obtain⟨b3,o3,hp3,hb3,hat3⟩:=zfr (zec.below (hwY.mono hB)) hmx;have hB2:b3<Y.heap.size:=nL hb3 (UO hB hwY.size);have e3:some (Value.slice p3 p.threads.length c3)=some (Value.slice (some ⟨b3,o3,none⟩) p.threads.length c3):=by rw [hp3]
  subst hp3;refine⟨m,rfl,hmt,zi0 xs[m],by have:=zc (hat3 m hmx) (i:=0) (v:=zi0 xs[m]) rfl;exact this,?_⟩;obtain⟨hrm,hrb⟩:=hxr _ (gM hmx);have hxm:xs[m].1=p.threads[m]:=by
   have:=Gl (fun l=>l[m]?) hxs;simp only [KX,gE hmx,gE hmt,Ug,Qc] at this;exact this
  have hmem:=gM hmt;have hxl:xs[m].1.length=p.threads[m].length:=by rw [hxm]
  have hw:=zmc (w:=Y) (l:=p.threads[m]) (dom:=vals) (q:=xs[m].2.1) (p:=q) (cap:=xs[m].2.2) (cd:=c) (by rw [<- hxm];exact (hrm.below (hwY.mono hB)).slr (UO hB hwY.size)) (ho.row.below hbY) (hOP.th _ hmem) (fun hne a ha=>nL (hrb (by rw [hxm];exact hne) a ha) (UO hB hwY.size)) (fun a ha=>nL (hqb a ha) hXY) (by omega);rw [<- hxl] at hw;have eg:zah (jv p.threads[m] vals)=g p.threads[m]:=by rw [hg]
  rw [eg] at hw;refine cmo hw ?_;rintro e Z ⟨(⟨q2,k2,hs,rfl,o2⟩ | ⟨hs,rfl⟩),hbZ⟩
  case inr =>
   refine brT ?_;have e:R=none:=by
    rw [<- hQ];exact Gr (Qn.2 ⟨_,hmem,Uu hs⟩)
   exact⟨.inr ⟨e,rfl⟩,hbX.trans ((hbY.trans (hbZ.mono hXY)).mono hbX.size)⟩
  refine brF ?_;have tk:(p.threads.take (m+1)).flatMap g=(p.threads.take m).flatMap g++g p.threads[m]:=by
   rw [tsg hmt,Kj,KV,Qs,QM]
  have l1:=lenTake m;have l2:=lenTake (m+1);rw [tk,<- KS,lap] at l2;have hXZ:=hbY.trans (hbZ.mono hXY);have hsZ:=hbZ.size;refine zfB (E:=zM) (T:=5) (B:=X.heap.size) (l:=vals++(p.threads.take m).flatMap g) (news:=g p.threads[m]) (cap:=k1) (m:=(g p.threads[m]).length) Tryz.underlying23 k5 rfl rfl rfl (o1.below hbZ) rfl o2.row (fun e=>by
   rcases o2.inv with ⟨_,h,_⟩ | ⟨g',_,h,_⟩
   ·exact h
   ·rw [e] at h;cases h) (by omega) (by omega) (by show ((vals++(p.threads.take m).flatMap g).length+(g p.threads[m]).length)*1<=_;omega) ?_
  intro q4 k4 U oU gU hbU;rw [KS,<- tk] at oU ⊢;refine nxI (by omega) ⟨(m+1,q4,k4),(cvE rfl rfl),⟨⟨hmt,fun l hl=>?_⟩,oU,hXZ.trans hbU⟩,zdc (by omega)⟩;have hl:l∈p.threads.take (m+1):=hl;rw [tsg hmt] at hl;rcases QU.1 hl with hl | hl
  ·exact hsm l hl
  ·rw [KD.1 hl];exact hs
 ·have hc:¬ (m:Int)<(p.threads.length:Int):=dF hc;obtain rfl:m=p.threads.length:=by omega
  rw [Qz] at o1 hsm ⊢;have l3:=lenTake p.threads.length;rw [Qz] at l3;rw [Gq (fun h=>by
   obtain⟨l,hl,e⟩:=Qn.1 h;have:=hsm l hl;have:=dT e;omega)] at hQ
  refine cmo (zcU o1.row (by rw [lap];omega) (by omega)) ?_;rintro e Z ⟨⟨q2,k2,rfl,o2⟩,hbZ⟩;rw [<- hnx] at o2 ⊢;have hXZ:=hbY.trans (hbZ.mono hXY);have hwZ:=zst hbX hXZ;refine biE (fun he=>?_) fun he=>?_
  ·have he:(zbb p.threads vals).length=vals.length:=by
    have:=dT he;omega
   rw [Gr he] at hQ;exact⟨.inl ⟨vals,q,c,hQ.symm,rfl,ho.below hXZ⟩,hwZ⟩
  ·have he:¬ (zbb p.threads vals).length=vals.length:=fun e=>(dF he) (by rw [e]);rw [Gq he] at hQ;have hge:=zhE p.threads hvd;have hle:(zbb p.threads vals).length<=256:=zdi _;exact⟨(zbb p.threads vals,q2,k2),(cvE rfl rfl),⟨⟨⟨by show 1<=(zbb p.threads vals).length;omega,zcu _⟩,k,by show 18<=k+(zbb p.threads vals).length;omega,hQ⟩,OwnS.lower o2 hwY.size,zb hXZ f0,hwZ⟩,by show 300-(zbb p.threads vals).length<300-vals.length;omega⟩
end
abbrev zQ (V:List UInt8) (l:List InsD):List PathD:=(jv l V).map za8
abbrev z5 (p:Prg) (V:List UInt8):List MixD:=zn3 p.init (p.threads.map (zQ V))
def zcE (p:Prg) (V:List UInt8):Prop :=
 (∀ l∈p.threads,(jv l V).length<=4096)/\(∀ k,k<=p.threads.length->za7 ((p.threads.take k).map fun l=>(zQ V l).length)<=4096) /\
  ∀ ds∈z6 ((p.threads.map (zQ V)).map List.length),(zim p.init (zaL (p.threads.map (zQ V)) ds)).isSome=true
section
variable {w:Wd} {bP cv B:Nat} {pc:List Value} {qv:OA} {V:List UInt8} {p:Prg}
theorem zn4 (fP:w.heap[bP]?=some (.cells pc.toArray 29 (0,0))) (hB:B<=w.heap.size) (hP:PrgX B w pc p) (hO:OkG p) (hG:GlobE w) (hV:SlR zM w qv V) (hv1:1<=V.length) (hVd:je V=V) (hpb:∀ l∈p.threads,∀ P∈zQ V l,PathB p.init.length P) :
  Calls PG 24 #[At0 bP,.slice qv V.length cv] w fun e w'=>((zcE p V/\∃ (ms:List MixX) (q:OA) (c:Nat),e = .returned (.tuple #[.slice q ms.length c,.bool true])/\ms.map (·.m)=z5 p V/\OwnS zgR 87 w.heap.size w' q c ms/\∀ x∈ms,NInM w.heap.size (fun k=>w.heap.size<=k) w' x)\/(¬ zcE p V/\e = .returned (.tuple #[.slice none 0 0,.bool false])))/\Bw w w':=by
 have hil:=hO.il;have hi6:=hO.i6;have ht4:=hO.t4;have hv256:V.length<=256:=by rw [<- hVd];exact zdi V
 refine qX 89 [At0 bP,.slice qv V.length cv] (.c .p (.c .p (.s .p (.s .p (.c .p (.c .p (.s .p .p))))))) Tryz.func24 ?_;obtain⟨L,hL⟩:=nm (w.heap.size);have hbP:=hlt fP;refine⟨Unit,fun _=>⟨[(1,.slice qv V.length cv),(2,At0 L),(4,At0 (L+1)),(5,At0 (L+2))],[]⟩,fun _ X=>X.heap[L]?=some (.cells #[At0 bP] 84 (0,0))/\X.heap[L+1]?=some (.cells #[.slice none 0 0] 81 (0,0))/\X.heap[L+2]?=some (.cells #[.bool false] 4 (0,0))/\X.heap.size=L+3/\Bw w X,?_,?_⟩
 ·have s1:=wz w (.cells #[At0 bP] 84);have h2:=zz (w.alloc (.cells #[At0 bP] 84)) (.cells #[.slice none 0 0] 81);have s2:=wz (w.alloc (.cells #[At0 bP] 84)) (.cells #[.slice none 0 0] 81);have h3:=zz ((w.alloc (.cells #[At0 bP] 84)).alloc (.cells #[.slice none 0 0] 81)) (.cells #[.bool false] 4);have s3:=wz ((w.alloc (.cells #[At0 bP] 84)).alloc (.cells #[.slice none 0 0] 81)) (.cells #[.bool false] 4);rw [s1] at h2 s2;rw [s2] at h3 s3;refine⟨(),⟨.cons rfl (.cons (by rw [hL];rfl) (.cons (by rw [hL,<- s1];rfl) (.cons (by rw [hL,<- s2];rfl) .nil))),rfl⟩,?_,?_,?_,?_,?_⟩
  ·rw [hL];exact qG _ (qG _ (zz w _))
  ·rw [hL];exact qG _ h2
  ·rw [hL];exact h3
  ·rw [hL];exact s3
  ·exact (((zba w _)).alloc (by simp) _).alloc (by simp;omega) _
 rintro _ X ⟨f0,f1,f2,sX,hbX⟩;refine⟨Unit,fun _=>⟨[(1,.slice qv V.length cv),(2,At0 L),(4,At0 (L+1)),(5,At0 (L+2)),(6,At0 (L+3))],[]⟩,fun _ Y=>MxS w.heap.size Y L bP [] none 0 [] none 0/\Bw w Y,?_,?_⟩
 ·refine⟨(),⟨.cons rfl (.cons rfl (.cons rfl (.cons rfl (.cons (by rw [<- sX];rfl) .nil)))),rfl⟩,⟨qG _ f0,qG _ f1,qG _ f2,by rw [<- sX];exact zz X _,OwnS.nil,OwnS.nil,fun z hz=>(by cases hz),fun z hz=>(by cases hz)⟩,hbX.alloc hbX.size _⟩
 clear f0 f1 f2 sX hbX;rintro _ X ⟨hS,hbX⟩;have hP0:=hP;obtain⟨_,⟨p3,c3,h3,xs,hxs,zec,hxr⟩,⟨p2,c2,h2,hinit⟩⟩:=hP;have hxl:xs.length=p.threads.length:=by rw [<- hxs,QQ]
 refine⟨(List TpR×OA×Nat)×OA×Nat,fun s=>⟨[(2,At0 L),(4,At0 (L+1)),(5,At0 (L+2)),(6,At0 (L+3)),(7,.slice s.2.1 (p.threads.map fun l=>(zQ V l).length).length s.2.2)],[]⟩,fun s Z=>((∀ l∈p.threads,(jv l V).length<=4096)/\∀ k,k<=p.threads.length->za7 ((p.threads.take k).map fun l=>(zQ V l).length)<=4096)/\MxS w.heap.size Z L bP (p.threads.map fun l=>(zQ V l).length) s.2.1 s.2.2 s.1.1 s.1.2.1 s.1.2.2/\s.1.1.map (fun z=>z.1.map (·.1))=p.threads.map (zQ V)/\Bw w Z,?_,?_⟩
 ·refine⟨_,zc (za hS.f0) (i:=0) rfl,?_⟩;refine⟨_,zc (za (zb hbX fP)) (i:=3) (by simpa using h3),?_⟩;refine⟨Nat×(List TpR×OA×Nat)×OA×Nat,fun s=>⟨[(1,.slice qv V.length cv),(2,At0 L),(4,At0 (L+1)),(5,At0 (L+2)),(6,At0 (L+3)),(7,.slice s.2.2.1 ((p.threads.take s.1).map fun l=>(zQ V l).length).length s.2.2.2),(8,i64 (za7 ((p.threads.take s.1).map fun l=>(zQ V l).length):Nat)),(23,.slice p3 p.threads.length c3),(24,i64 p.threads.length),(25,i64 (s.1:Nat))],[]⟩,
   fun s Z=>(s.1<=p.threads.length/\(∀ l∈p.threads.take s.1,(jv l V).length<=4096)/\∀ k,k<=s.1->za7 ((p.threads.take k).map fun l=>(zQ V l).length)<=4096)/\MxS w.heap.size Z L bP ((p.threads.take s.1).map fun l=>(zQ V l).length) s.2.2.1 s.2.2.2 s.2.1.1 s.2.1.2.1 s.2.1.2.2/\s.2.1.1.map (fun z=>z.1.map (·.1))=(p.threads.take s.1).map (zQ V)/\Bw w Z,fun s=>p.threads.length-s.1,(0,([],none,0),none,0),
   (cvE rfl rfl),⟨⟨Gb _,fun l hl=>Gs hl (by simp),fun k hk=>by rw [Nat.le_zero.1 hk];exact (by decide:(1:Nat)<=4096)⟩,hS,rfl,hbX⟩,?_⟩
  clear hS hbX;rintro⟨k,⟨ts,pT,cT⟩,ps,cs⟩ Z ⟨⟨hk,hle,hall⟩,hS,hz,hbZ⟩;dsimp only at hk hle hall hS hz ⊢;have hts:ts.length=k:=by
   have:=Gl List.length hz;rw [QQ,QQ,Qx] at this;omega
  refine biE (fun hc=>?_) fun hc=>?_
  ·have hc:(k:Int)<(p.threads.length:Int):=dT hc;have hkl:k<p.threads.length:=by omega
   have hkx:k<xs.length:=by omega
   have hZs:=hbZ.size;obtain⟨l,hlk⟩:∃ l,p.threads[k]=l:=⟨_,rfl⟩;have hlm:l∈p.threads:=by rw [<- hlk];exact gM hkl
   have hQ:=hO.th l hlm;obtain⟨b3,o3,hp3,hb3,hat3⟩:=zfr (zec.below (hbZ.mono hB)) hkx;have hB2:b3<Z.heap.size:=by omega
   have e3:some (Value.slice p3 p.threads.length c3)=some (Value.slice (some ⟨b3,o3,none⟩) p.threads.length c3):=by rw [hp3]
   subst hp3;refine⟨k,rfl,hkl,?_⟩;refine⟨zi0 xs[k],by have:=zc (hat3 k hkx) (i:=0) (v:=zi0 xs[k]) rfl;exact this,?_⟩;obtain⟨hrm,hrb⟩:=hxr _ (gM hkx);have hxm:xs[k].1=l:=by
    have:=Gl (fun l=>l[k]?) hxs;simp only [KX,gE hkx,gE hkl,Ug,Qc] at this;rw [this,hlk]
   have hpt:(p.threads.take (k+1))=p.threads.take k++[l]:=by rw [tsg hkl,hlk]
   refine cmo (zo6 (l:=xs[k].1) (vals:=V) ((hrm.below (hbZ.mono hB)).slr (by omega)) (hV.below hbZ) hv1 (by omega) (by rw [hxm];exact hQ) (hG.below hbZ) (fun hne a ha=>by have:=hrb hne a ha;omega)) ?_;rw [hVd,hxm];obtain⟨A,hA⟩:=nm (za7 ((p.threads.take k).map fun l=>(zQ V l).length));have hpr0:=hall k (UY _);rintro e Y ⟨(⟨rk,pk,ck,hmle,rfl,hrk,ork,onk⟩ | ⟨hlong,rfl⟩),hbY⟩
   case inr =>
    have hSY:=hS.below hbY;rw [<- hA] at hpr0 ⊢;refine⟨((A*0:Nat):Int),(ze (by omega)).trans (by omega),?_⟩;refine brT ?_;refine brT ?_;refine zi k81 hSY.f1 (o:=0) (v := .slice none 0 0) rfl rfl (by show 0<1;decide) rfl fun Z1 fZ1 gZ1 sZ1=>?_;refine zi k4 ((gZ1.block (L+2) (hlt hSY.f2) (by simp)).trans hSY.f2) (o:=0) (v := .bool false) rfl rfl (by show 0<1;decide) rfl fun Z2 fZ2 gZ2 sZ2=>?_;refine⟨.slice none 0 0,zc (za ((gZ2.block (L+1) (hlt fZ1) (by simp)).trans fZ1)) (i:=0) rfl,.bool false,zc (za fZ2) (i:=0) rfl,.inr ⟨fun h=>?_,rfl⟩,?_⟩
    ·have:=h.1 l hlm;omega
    ·have hwY:=hbZ.trans (hbY.mono hZs);exact (hwY.trans (zh gZ1 hwY.size (by omega))).trans (zh gZ2 (by rw [sZ1];exact hwY.size) (by omega))
   have hrk:rk.map (·.1)=zQ V l:=hrk;have hrkl:rk.length=(zQ V l).length:=by rw [<- hrk,QQ]
   have hpl:(zQ V l).length<=4096:=by rw [QQ];exact hmle
   have hSY:=hS.below hbY;have hA2:za7 ((p.threads.take (k+1)).map fun l=>(zQ V l).length)=A*rk.length:=by
    rw [hpt,QT];show za7 ((p.threads.take k).map (fun l=>(zQ V l).length)++[(zQ V l).length])=_;rw [zkD,<- hrkl,hA]
   rw [<- hA] at hpr0 ⊢;obtain⟨nz,hnz⟩:∃ nz:TpR,nz=(rk,pk,ck):=⟨_,rfl⟩;have hen:[Value.slice pk rk.length ck]=tpE.enc nz:=by rw [hnz];rfl
   have hAr:A*rk.length<=4096*4096:=Us hpr0 (by omega);refine⟨((A*rk.length:Nat):Int),by rw [<- QK];exact ze (by omega),?_⟩;refine brF ?_;refine biE (fun hbig=>?_) fun hbig=>?_
   ·have hbig:(4096:Int)<((A*rk.length:Nat):Int):=dT hbig;refine zi k81 hSY.f1 (o:=0) (v := .slice none 0 0) rfl rfl (by show 0<1;decide) rfl fun Z1 fZ1 gZ1 sZ1=>?_;refine zi k4 ((gZ1.block (L+2) (hlt hSY.f2) (by simp)).trans hSY.f2) (o:=0) (v := .bool false) rfl rfl (by show 0<1;decide) rfl fun Z2 fZ2 gZ2 sZ2=>?_;refine⟨.slice none 0 0,zc (za ((gZ2.block (L+1) (hlt fZ1) (by simp)).trans fZ1)) (i:=0) rfl,.bool false,zc (za fZ2) (i:=0) rfl,.inr ⟨fun h=>?_,rfl⟩,?_⟩
    ·have:=h.2.1 (k+1) hkl;rw [hA2] at this;omega
    ·have hwY:=hbZ.trans (hbY.mono hZs);exact (hwY.trans (zh gZ1 hwY.size (by omega))).trans (zh gZ2 (by rw [sZ1];exact hwY.size) (by omega))
   have hbig:¬ (4096:Int)<((A*rk.length:Nat):Int):=dF hbig;have hpr:A*rk.length<=4096:=by omega
   refine⟨_,zc (za hSY.f3) (i:=0) rfl,?_⟩;refine⟨⟨by decide,by decide,rfl⟩,tpE.enc nz,by rw [<- hen];rfl,?_⟩;have hb1:Bw Y (Y.alloc (.cells (tpE.enc nz).toArray 78)):=zba _ _;have hS1:=hSY.below hb1;have ork1:=ork.below hb1;have onk1:=fun x hx=>(onk x hx).same (Z:=Y.alloc (.cells (tpE.enc nz).toArray 78)) fun {α E T c q l} _ ho=>ho.below hb1;unfold zd3 zay;show SatR _ _;refine zsK hS1.rk (qF tpE nz) (by have:=hb1.size;have:=hbY.size;omega) (by omega) fun p' c' U oU gU hat1=>?_;have f0U:=qg hS1.f0 hS1.rk (by decide) gU;have f1U:=qg hS1.f1 hS1.rk (by decide) gU;have f2U:=qg hS1.f2 hS1.rk (by decide) gU;have f3U:=qg hS1.f3 hS1.rk (by decide) gU;refine zi zsI f3U (o:=0) (v := .slice p' (ts++[nz]).length c') rfl rfl (by show 0<1;decide) rfl fun S fS gS sS=>?_;have hbZY:=hbZ.trans (hbY.mono hZs);have sY:=hbY.size;have sb1:=hb1.size;have hbU:Bw w U:=(hbZY.trans (hb1.mono (by omega))).trans (qC hS1.rk (by omega) (UY _) gU);have hbS:Bw w S:=hbU.trans (zh gS hbU.size (by omega));have hSS:MxS w.heap.size S L bP ((p.threads.take k).map fun l=>(zQ V l).length) ps cs (ts++[nz]) p' c':=by
    have kU:∀ {α:Type} {E:Enc α} {T cc:Nat} {r:OA} {ll:List α},T≠78->T≠118->OwnS E T w.heap.size (Y.alloc (.cells (tpE.enc nz).toArray 78)) r cc ll->OwnS E T w.heap.size S r cc ll:=fun {α E T cc r ll} h1 h2 h=>qh (j3 h hS1.rk h1 gU) f3U h2 gS;have kB:∀ {b:Nat} {o:Obj},b≠L+3->U.heap[b]?=some o->S.heap[b]?=some o:=fun {b o} hb h=>(gS.block b (hlt h) (by simpa using hb)).trans h;have kP:∀ x:zc0,PthO w.heap.size (Y.alloc (.cells (tpE.enc nz).toArray 78)) x->PthO w.heap.size S x:=fun x hx=>hx.same fun {α E T c q l} ht ho=>kU (by rcases ht with rfl | rfl <;> decide) (by rcases ht with rfl | rfl <;> decide) ho;refine⟨kB (by omega) f0U,kB (by omega) f1U,kB (by omega) f2U,fS,kU (by decide) (by decide) hS1.own,qh oU f3U (by decide) gS,fun z hz=>?_,fun z hz=>?_⟩
    ·rcases QU.1 hz with hz | hz
     ·exact kU (by decide) (by decide) (hS1.n1 z hz)
     ·rw [KD.1 hz,hnz];exact kU (by decide) (by decide) (ork1.lower hZs)
    ·rcases QU.1 hz with hz | hz
     ·exact fun x hx=>kP x (hS1.n2 z hz x hx)
     ·rw [KD.1 hz,hnz];exact fun x hx=>kP x ((onk1 x hx).mono hZs)
   clear hS1 ork1 onk1 hSY hS oU gU hat1 f0U f1U f2U f3U fS gS;refine⟨⟨by decide,by decide,rfl⟩,zu.enc rk.length,rfl,?_⟩;have hb2:Bw S (S.alloc (.cells (zu.enc rk.length).toArray 3)):=zba _ _;have hS2:=hSS.below hb2;have sbS:=hbS.size;have sb2:=hb2.size;unfold zd3 zay;show SatR _ _;refine zk9 hS2.own (qF zu rk.length) (by omega) (by rw [QQ,Qx];omega) fun p2' c2' V' oV gV hat2=>?_;rw [j4] at gV;have hSV:=hS2.size oV gV;have hzz:((p.threads.take k).map fun l=>(zQ V l).length)++[rk.length]=(p.threads.take (k+1)).map fun l=>(zQ V l).length:=by
    rw [hpt,QT,hrkl];rfl
   rw [hzz] at hSV ⊢;refine nxI (by omega) ?_;refine⟨(k+1,(ts++[nz],p',c'),p2',c2'),⟨.cons rfl (.cons rfl (.cons rfl (.cons rfl (.cons rfl (.cons rfl (.cons (by show _=some (i64 (za7 ((p.threads.take (k+1)).map fun l=>(zQ V l).length):Nat));rw [hA2];rfl) (.cons rfl (.cons rfl (.cons rfl .nil))))))))),rfl⟩,⟨⟨hkl,fun l' hl'=>?_,fun k' hk'=>?_⟩,hSV,?_,hbS.trans ((hb2.mono sbS).trans (qC hS2.own (by omega) (UY _) gV))⟩,zdc (by omega)⟩
   ·have hl':l'∈p.threads.take (k+1):=hl';rw [hpt] at hl';rcases QU.1 hl' with h | h
    ·exact hle l' h
    ·rw [KD.1 h];exact hmle
   ·have hk':k'<=k+1:=hk';by_cases e:k'=k+1
    ·rw [e,hA2];exact hpr
    ·exact hall k' (by omega)
   rw [hpt,QT,QT,hz,hnz];show _++[rk.map (·.1)]=_++[zQ V l];rw [hrk]
  ·have hc:¬ (k:Int)<(p.threads.length:Int):=dF hc;obtain rfl:k=p.threads.length:=by omega
   rw [Qz] at hz hS hle ⊢;exact⟨((ts,pT,cT),ps,cs),(cvE rfl rfl),⟨hle,hall⟩,hS,hz,hbZ⟩
 rintro⟨⟨ts,pT,cT⟩,ps,cs⟩ X ⟨⟨hle,hall⟩,hS,hz,hbX⟩;dsimp only at hS hz ⊢;obtain⟨Q,hQ⟩:=nm (X.heap.size);refine⟨Unit,fun _=>⟨[(2,At0 L),(4,At0 (L+1)),(5,At0 (L+2)),(6,At0 (L+3)),(7,.slice ps (p.threads.map fun l=>(zQ V l).length).length cs),(13,At0 Q)],[]⟩,fun _ Z=>MxS w.heap.size Z L bP (p.threads.map fun l=>(zQ V l).length) ps cs ts pT cT/\Z.heap[Q]?=some (.cells #[.slice none 0 0] 81 (0,0))/\Z.heap.size=Q+1/\Bw w Z,?_,?_⟩
 ·refine⟨(),⟨.cons rfl (.cons rfl (.cons rfl (.cons rfl (.cons rfl (.cons (by rw [hQ];rfl) .nil))))),rfl⟩,hS.below ((zba X _)),by rw [hQ];exact zz X _,by rw [hQ];exact wz _ _,hbX.alloc hbX.size _⟩
 have hQw:w.heap.size+4<=Q:=by have:=hlt hS.f3;omega
 clear hS hbX hQ;clear X;rintro _ X ⟨hS,fQ,sX,hbX⟩;obtain⟨Ts,hTs⟩:=nm (p.threads.map (zQ V));have hTl:Ts.length=p.threads.length:=by rw [hTs,QQ]
 have htl:ts.length=p.threads.length:=by have:=Gl List.length hz;simpa using this
 have hsz:(p.threads.map fun l=>(zQ V l).length)=Ts.map List.length:=by rw [hTs,UJ];rfl
 rw [hsz] at hS ⊢;rw [<- hTs] at hz;have hsl1:(Ts.map List.length).length<=1000:=by rw [QQ];omega
 have hsl2:∀ n∈Ts.map List.length,n<=1000000:=fun n hn=>by
  rw [hTs,UJ] at hn;obtain⟨l,hl,rfl⟩:=UL.1 hn;have:=hle l hl;show ((jv l V).map za8).length<=_;rw [QQ];omega
 have hmemT:∀ z∈ts,∀ x∈z.1,PathB p.init.length x.1:=fun z hz' x hx=>by
  have h1:z.1.map (·.1)∈Ts:=by rw [<- hz];exact UL.2 ⟨z,hz',rfl⟩
  rw [hTs] at h1;obtain⟨l,hl,he⟩:=UL.1 h1;exact hpb l hl x.1 (by rw [he];exact UL.2 ⟨x,hx,rfl⟩)
 refine cmo znX ?_;rintro e V1 ⟨rfl,fo,sV1,hbV1⟩;have hI:=zqz fo (hS.own.row.below hbV1) (fun a ha=>by have:=(zo hS.own ha).2.1;omega) hsl1 hsl2;have hS1:=hS.below hbV1;have hb1:Bw w V1:=zst hbX hbV1;have hG0:Gath zgR 87 81 Q V1.heap.size Q V1 (NInM w.heap.size) [] (fun k=>k=Q\/k=L+1\/k=L+2) V1 :=
  ⟨UY _,.inl rfl,fun k hk=>by have:=hlt hS1.f3;omega,⟨none,0,zb hbV1 fQ,OwnS.nil,fun a h=>by cases h⟩,fun x hx=>(by cases hx),Gd _ _⟩
 obtain⟨f,hf⟩:∃ f:List Nat->Option MixD,f=fun ds=>zim p.init (zaL Ts ds):=⟨_,rfl⟩;have hmix:z5 p V=(z6 (Ts.map List.length)).filterMap f:=by rw [hf,hTs];rfl
 have hIter:=Gath.iter (σ:=List (List Nat)) (E:=zgR) (T:=87) (TS:=81) (B:=Q) (n0:=V1.heap.size) (L:=Q) (W:=V1) (NIn:=NInM w.heap.size) (f:=fun pre (ms:List MixX)=>ms.map (·.m)=pre.filterMap f/\ms.length<=pre.length/\∀ ds∈pre,(f ds).isSome=true) (zhw _) (by omega);have hOkI:∀ h:(∀ ds∈z6 (Ts.map List.length),(f ds).isSome=true),zcE p V:=fun h=>⟨hle,hall,by rw [hf,hTs] at h;exact h⟩;have hOkE:zcE p V->∀ ds∈z6 (Ts.map List.length),(f ds).isSome=true:=fun h=>by rw [hf,hTs];exact h.2.2
 have hQL:L+2<Q:=by omega
 have h1Q:=hS1.f1;have h2Q:=hS1.f2;refine zcK (zbe _) rfl (lb := #[At0 X.heap.size]) rfl rfl hI (UY _) (fun k hk=>⟨?_,rfl⟩) (fun pre vs W ⟨l,q,_,h,_⟩=>by rw [h];rfl) (by decide)
  (fun k=>k=Q\/k=L+1\/k=L+2) (fun pre F Y=>(F (L+1)/\F (L+2))/\∃ ms,(ms.map (·.m)=pre.filterMap f/\ms.length<=pre.length/\∀ ds∈pre,(f ds).isSome=true)/\Gath zgR 87 81 Q V1.heap.size Q V1 (NInM w.heap.size) ms F Y)
  (fun ex pre F Y=>(∀ k,F k->k<Y.heap.size)/\V1.heap.size<=Y.heap.size/\ex = .ret/\¬ zcE p V/\Y.heap[L+1]?=some (.cells #[.slice none 0 0] 81 (0,0))/\Y.heap[L+2]?=some (.cells #[.bool false] 4 (0,0))/\Bw w Y) (fun k hk=>?_) ⟨fun s F A C ⟨h1,h2⟩ hs=>⟨h1,hIter.step s F A C h2 hs⟩,fun s F A k ⟨_,h2⟩ hk=>hIter.lt s F A k h2 hk⟩
  (fun ex=>⟨fun pre F A C ⟨g1,g2,g3,g4,g5,g6,g7⟩ hs=>⟨fun k hk=>nL (g1 k hk) hs.size,UO g2 hs.size,g3,g4,(hs.same _ (hlt g5) (.inl ⟨by omega,fun h=>h⟩)).trans g5,(hs.same _ (hlt g6) (.inl ⟨by omega,fun h=>h⟩)).trans g6,g7.trans ⟨hs.os,hs.tape,hs.output,hs.size,fun k hk=>hs.same k (by have:=g7.size;omega) (.inl ⟨by have:=hb1.size;omega,fun h=>h⟩)⟩⟩,fun pre F A k ⟨g1,_⟩ hk=>⟨g1 k hk,fun h=>h⟩⟩) ⟨⟨.inr (.inl rfl),.inr (.inr rfl)⟩,[],⟨rfl,Gb _,fun ds h=>by cases h⟩,hG0⟩ ?_ ?_ ?_
 ·rcases hk with (rfl | ⟨a,ha,rfl⟩) | h
  ·omega
  ·have:=(zo hS.own ha).2.1;omega
  ·exact h.elim
 ·rcases hk with rfl | ⟨a,ha,rfl⟩
  ·omega
  ·obtain⟨_,_,cur,hc⟩:=zo hS.own ha;rintro (e | e | e)
   ·rw [e,fQ] at hc;simp at hc
   ·rw [e,hS.f1] at hc;simp at hc
   ·rw [e,hS.f2] at hc;simp at hc
 ·rintro yl pre ds vs F Y hyl hpre hJ0 ⟨l,qd,hlast,rfl,hsl,hcel⟩ hfy ⟨lo,hlo⟩;have hdx:ds=l:=by simpa using hlast
  subst hdx;refine⟨rfl,F,KeepsG.refl _ _,hJ0,?_⟩;rintro O Y2 hY2 ⟨hFL,ms,⟨hms,hml,hsm⟩,hG2⟩;have hslY:SlR zu Y2 qd ds:=by
   rw [hY2];refine qT hsl fun a ha=>zg fun e=>?_;obtain⟨cur,hcur⟩:=hcel a ha;rw [e,hlo] at hcur
   cases hcur
  obtain⟨hdl,hdlt⟩:=zal (hpre.subset (JQ _ (KD.2 rfl)));have hdm:ds∈z6 (Ts.map List.length):=hpre.subset (JQ _ (KD.2 rfl));rw [QQ] at hdl;have hY2s:=hG2.size;have old:∀ {k:Nat} {ob:Obj},k<Q->V1.heap[k]?=some ob->Y2.heap[k]?=some ob:=fun {k ob} hk h=>(hG2.old.block k hk).trans h;have g0:=old (by omega) hS1.f0;have g3:=old (by omega) hS1.f3;have kR:∀ {α:Type} {E:Enc α} {T cc:Nat} {r:OA} {ll:List α},T≠81->OwnS E T w.heap.size X r cc ll->OwnS E T w.heap.size Y2 r cc ll:=fun {α E T cc r ll} hT h=>h.same fun a ha=>by
   have hq:a.block≠Q:=fun e=>by
    obtain⟨_,_,cur,hc⟩:=zo h ha;rw [e,fQ] at hc;simp at hc;exact hT hc.2.symm
   have:=(zo h ha).2.1;exact (hG2.old.block _ (by omega)).trans (hbV1.block _ this)
  have rkY:=kR (by decide) hS.rk;have n1Y:=fun z hz=>kR (by decide) (hS.n1 z hz);have n2Y:∀ z∈ts,∀ x∈z.1,PthO w.heap.size Y2 x:=fun z hz x hx=>(hS.n2 z hz x hx).same fun {α E T c q l} ht ho=>kR (by rcases ht with rfl | rfl <;> decide) ho;have fPY:Y2.heap[bP]?=some (.cells pc.toArray 29 (0,0)):=old (by omega) ((hb1.block bP hbP).trans fP);have hbwY:Bw w Y2:=hb1.trans (hG2.old.mono (by omega));refine⟨Nat×List zc0×OA×Nat,fun s=>⟨[(2,At0 L),(4,At0 (L+1)),(5,At0 (L+2)),(6,At0 (L+3)),(13,At0 Q),(15,.slice s.2.2.1 s.2.1.length s.2.2.2),(58,.slice qd ds.length ds.length),(59,i64 ds.length),(60,i64 (s.1:Nat))],[]⟩,
   fun s Z=>s.1<=ds.length/\OwnS jG 73 Y2.heap.size Z s.2.2.1 s.2.2.2 s.2.1/\s.2.1.map (·.1)=zaL (Ts.take s.1) (ds.take s.1)/\s.2.1.length=s.1/\(∀ x∈s.2.1,∃ z∈ts,x∈z.1)/\Bw Y2 Z,fun s=>ds.length-s.1,(0,[],none,0),
   (cvE rfl rfl),⟨Gb _,OwnS.nil,by simp [zaL],rfl,fun x hx=>(by cases hx),Gd _ _⟩,?_⟩
  rintro⟨k,Cs,pC,cC⟩ Z ⟨hk,oC,hCs,hCl,hCm,hbZ⟩;dsimp only at hk oC hCs hCl hCm ⊢;have hZs:=hbZ.size;refine biE (fun hc=>?_) fun hc=>?_
  ·have hc:(k:Int)<(ds.length:Int):=dT hc;have hkl:k<ds.length:=by omega
   have hkt:k<ts.length:=by omega
   obtain⟨z,hzk⟩:∃ z,ts[k]=z:=⟨_,rfl⟩;have hzm:z∈ts:=by rw [<- hzk];exact gM hkt
   have hkT:k<Ts.length:=by omega
   have hzT:Ts[k]=z.1.map (·.1):=by
    have h1:Ts[k]?=some (z.1.map (·.1)):=(by rw [<- hz,KX,gE hkt,hzk];rfl);rw [gE hkT] at h1;exact Uh h1
   obtain⟨d,hd⟩:∃ d,ds[k]=d:=⟨_,rfl⟩;have hdz:d<z.1.length:=by
    have:=hdlt k (Ts[k].length) d (by rw [KX,gE hkT];rfl) (by rw [gE hkl,hd]);rw [hzT,QQ] at this;exact this
   obtain⟨x,hx⟩:∃ x,z.1[d]=x:=⟨_,rfl⟩;have hxm:x∈z.1:=by rw [<- hx];exact gM hdz
   have hpick:zaL (Ts.take (k+1)) (ds.take (k+1))=zaL (Ts.take k) (ds.take k)++[x.1]:=by
    rw [tsg hkT,tsg hkl,hd,hzT,zfX _ _ _ _ (by rw [Qx,Qx];omega),KX,gE hdz,hx];rfl
   obtain⟨bD,oD,hpD,hlD,hatD⟩:=(hslY.below hbZ).at hkl;obtain⟨bT,oT,hpT,hlT,hatT⟩:=(rkY.below hbZ).row.at hkt;obtain⟨bz,oz,hpz,hlz,hatz⟩:=((n1Y z hzm).below hbZ).row.at hdz;subst hpD;subst hpT;refine⟨k,rfl,hkl,?_⟩;refine⟨i64 d,by have:=zc (hatD k hkl) (i:=0) (v:=i64 d) (by rw [hd];rfl);exact this,?_⟩;refine⟨_,zc (za (zb hbZ g3)) (i:=0) rfl,?_⟩;refine⟨k,rfl,hkt,?_⟩;refine⟨.slice z.2.1 z.1.length z.2.2,by have:=zc (hatT k hkt) (i:=0) (v := .slice z.2.1 z.1.length z.2.2) (by rw [hzk];rfl);exact this,?_⟩;rw [hpz];refine⟨d,rfl,hdz,?_⟩;refine⟨jG.enc x,jG.len x,by rw [<- hx];exact hatz d hdz,hlz,?_⟩;refine⟨⟨by decide,by decide,rfl⟩,jG.enc x,za1 (jG.len x) rfl,?_⟩;have hb2:Bw Z (Z.alloc (.cells (jG.enc x).toArray 73)):=zba _ _;have sb2:=hb2.size;unfold zd3 zay;show SatR _ _;refine zsM (oC.below hb2) (qF jG x) (by omega) (by omega) fun p' c' U oU gU hat1=>?_;refine nxI (by omega) ?_;refine⟨(k+1,Cs++[x],p',c'),(cvE rfl rfl),⟨hkl,oU,by rw [QT,hCs,hpick];rfl,by rw [lap,hCl];rfl,fun y hy=>?_,hbZ.trans ((hb2.mono hZs).trans (qC (oC.below hb2) (by omega) (UY _) gU))⟩,zdc (by omega)⟩;rcases QU.1 hy with hy | hy
   ·exact hCm y hy
   ·rw [KD.1 hy];exact⟨z,hzm,hxm⟩
  have hc:¬ (k:Int)<(ds.length:Int):=dF hc;obtain rfl:k=ds.length:=by omega
  rw [Qz,JJ (by omega)] at hCs;obtain⟨q1,y1,q2,y2,q3,y3,q4,y4,hvs,_⟩:=hP0.v.h;have hpc1:pc[1]?=some (.slice q1 p.init.length y1):=by rw [hvs,<- hil];rfl
  have hZw:w.heap.size<=Z.heap.size:=by have:=hbwY.size;omega
  refine⟨_,zc (za (zb hbZ g0)) (i:=0) rfl,?_⟩;refine cmo (zk7 (zb hbZ fPY) hpc1 h2 ((hinit.below (((zst hbwY hbZ)).mono hB)).slr (by omega)) hi6 oC.row (fun x hx=>?_) (fun x hx=>?_) (by omega)) ?_
  ·obtain⟨z,hz1,hx1⟩:=hCm x hx;obtain⟨o1,o2,o3,o4⟩:=n2Y z hz1 x hx1;refine⟨fun a ha=>?_,(o1.below hbZ).row,(o2.below hbZ).row,(o3.below hbZ).row,(o4.below hbZ).row⟩;rcases ha with ha | ha | ha
   ·exact (zo (o2.below hbZ) ha).2.1
   ·exact (zo (o3.below hbZ) ha).2.1
   ·exact (zo (o4.below hbZ) ha).2.1
  ·obtain⟨z,hz1,hx1⟩:=hCm x hx;exact hmemT z hz1 x hx1
  rintro e U ⟨⟨vs,hres⟩,hbU⟩;have hfd0:f ds=zim p.init (Cs.map (·.1)):=by rw [hf,hCs]
  cases hmx:zim p.init (Cs.map (·.1)) with
  | none =>
   rw [hmx] at hres hfd0;obtain⟨rfl,hvz⟩:=hres;have hvl:vs.length=336:=by rw [hvz];exact jB
   have hv1:vs.all Value.oneCell'=true:=by rw [hvz];kernel_rfl
   have hUs:=hbU.size;refine zn (X:=U) (v := .agg vs.toArray) k87 hvl jB hv1 fun V' hbV fV sV=>?_;refine brT ?_;have hbY2V:Bw Y2 V':=(hbZ.trans (hbU.mono hZs)).trans (hbV.mono (by omega));have hV2:=hbY2V.size;have g1:V'.heap[L+1]?=_:=zb hbY2V (old (by omega) hS1.f1);have g2:V'.heap[L+2]?=_:=zb hbY2V (old (by omega) hS1.f2);refine zi k81 g1 (o:=0) (v := .slice none 0 0) rfl rfl (by show 0<1;decide) rfl fun Z1 fZ1 gZ1 sZ1=>?_;refine zi k4 ((gZ1.block (L+2) (hlt g2) (by simp)).trans g2) (o:=0) (v := .bool false) rfl rfl (by show 0<1;decide) rfl fun Z2 fZ2 gZ2 sZ2=>?_;have hFlt:=hG2.lt;have b2:Bw w Z2:=(((zst hbwY hbY2V)).trans (zh gZ1 (by have:=hbwY.size;omega) (by omega))).trans (zh gZ2 (by have:=hbwY.size;omega) (by omega));refine⟨F,⟨fun k hk=>by have:=hFlt k hk;omega,by omega,rfl,fun h=>?_,(gZ2.block (L+1) (hlt fZ1) (by simp)).trans fZ1,fZ2,b2⟩,(((KeepsG.below hbY2V fun k h => .inl h):KeepsG F F Y2 V').trans (KeepsG.grown (F:=F) gZ1 hFL.1)).trans (KeepsG.grown (F:=F) gZ2 hFL.2)⟩;have:=hOkE h ds hdm;rw [hfd0] at this
   cases this
  | some mx =>
  rw [hmx] at hres;have hfd:f ds=some mx:=by rw [hfd0,hmx]
  obtain⟨rfl,x1,x2,x3,x4,y1,y2,y3,y4,xs',ys',hvs',m1,m2,m3,m4,m5,m6,m7,m8⟩:=hres;obtain⟨nx,hnx⟩:∃ nx:MixX,nx=⟨mx,x1,y1,x2,y2,x3,y3,x4,y4,xs',ys'⟩:=⟨_,rfl⟩;have hen:vs=zgR.enc nx:=by rw [hvs',hnx];rfl
  have hvl:vs.length=336:=by rw [hen];exact zgR.len nx
  have hv1:vs.all Value.oneCell'=true:=by rw [hen];exact zjz nx
  have hUs:=hbU.size;refine zn (X:=U) (v := .agg vs.toArray) k87 hvl jB hv1 fun V' hbV fV sV=>?_;have fV:V'.heap[U.heap.size]?=some (.cells vs.toArray 87 (0,0)):=fV;refine brF ?_;have hbY2V:Bw Y2 V':=(hbZ.trans (hbU.mono hZs)).trans (hbV.mono (by omega));obtain⟨pr,cr,h4,h5,h6⟩:=hG2.row;refine⟨_,zc (za (zb hbY2V h4)) (i:=0) rfl,?_⟩;refine⟨vs,hvl,za fV,hlt fV,?_⟩;refine⟨⟨by decide,by decide,jB⟩,zgR.enc nx,by rw [<- hen];exact za1 hvl jB,?_⟩;have hpl:pre.length<1000000000:=by
   obtain⟨t,ht⟩:=hpre;have h7:(pre++[ds]++t).length=zT (Ts.map List.length).reverse:=by
    rw [ht];unfold z6;rw [QQ,KY]
   have h8:zT (Ts.map List.length).reverse<=4096:=by
    have h9:=hall p.threads.length (UY _);rw [Qz,hsz] at h9;rw [zeF];exact h9
   simp only [lap,Qv] at h7;omega
  have hnw:∀ (G:Nat->Prop) (S:Wd),(∀ k,Y2.heap.size<=k->k<V'.heap.size->S.heap[k]?=V'.heap[k]?)->(∀ k,Y2.heap.size<=k->k<V'.heap.size->G k)->NInM w.heap.size G S nx:=by
   intro G S hs hg;have kp:∀ {α:Type} {E:Enc α} {T cc:Nat} {r:OA} {ll:List α},OwnS E T Z.heap.size U r cc ll->RowIn E T w.heap.size G S r cc ll:=fun {α E T cc r ll} h=>by
    have ol:∀ a,r=some a->Y2.heap.size<=a.block/\a.block<V'.heap.size:=fun a ha=>⟨by have:=(zo h ha).1;omega,by have:=(zo h ha).2.1;omega⟩;exact⟨OwnS.lower ((h.below hbV).same fun a ha=>hs _ (ol a ha).1 (ol a ha).2) hZw,fun a ha=>hg _ (ol a ha).1 (ol a ha).2⟩
   rw [hnx];exact⟨m3,m6,kp m1,kp m2,kp m4,fun y hy=>kp (m5 y hy),kp m7,fun y hy=>kp (m8 y hy)⟩
  obtain⟨v,Y5,hrun,S,hrun2,F',hG',hK',hFF'⟩:=hG2.step (P:=PG) (ty:=81) (cap1:=1) (zhw _) (by decide) Tryz.underlying81 k87 rfl rfl (by show _=336;exact jB) k81 rfl (by omega) (UY _) hbY2V nx (by omega) (by show (ms.length+1)*2488<=_;omega) hnw pr cr h4;unfold zd3 zay;refine SatR.mk hrun ?_;refine SatR.mk hrun2 ?_;refine⟨F',⟨⟨hFF' _ hFL.1,hFF' _ hFL.2⟩,_,⟨?_,by rw [lap,lap];show ms.length+1<=pre.length+1;omega,fun d hd=>?_⟩,hG'⟩,hK'⟩
  case refine_2 =>
   rcases QU.1 hd with h | h
   ·exact hsm d h
   ·rw [KD.1 h,hfd];rfl
  rw [QT,List.filterMap_append,hms];show _++[nx.m]=_++List.filterMap f [ds];rw [show List.filterMap f [ds]=[mx] by rw [List.filterMap_cons,hfd];rfl,hnx]
 ·rintro D F Y hD hfD ⟨hFL,ms,⟨hms,hml,hsm⟩,hG⟩ hdef;obtain⟨pr,cr,h4,h5,h6⟩:=hG.row;have hYs:=hG.size;have old:∀ {k:Nat} {ob:Obj},k<Q->V1.heap[k]?=some ob->Y.heap[k]?=some ob:=fun {k ob} hk h=>(hG.old.block k hk).trans h;have g1:=old (by omega) hS1.f1;have g2:=old (by omega) hS1.f2;refine⟨_,zc (za h4) (i:=0) rfl,?_⟩;refine zi k81 g1 (o:=0) (v := .slice pr ms.length cr) rfl rfl (by show 0<1;decide) rfl fun Z1 fZ1 gZ1 sZ1=>?_;refine zi k4 ((gZ1.block (L+2) (hlt g2) (by simp)).trans g2) (o:=0) (v := .bool true) rfl rfl (by show 0<1;decide) rfl fun Z2 fZ2 gZ2 sZ2=>?_;have k2:∀ k,k<Y.heap.size->k≠L+1->k≠L+2->Z2.heap[k]?=Y.heap[k]?:=fun k hk n1 n2=>(gZ2.block k (by rw [sZ1];exact hk) (by simpa using n2)).trans (gZ1.block k hk (by simpa using n1));refine⟨_,rfl,(k2 D (hlt hdef) (by omega) (by omega)).trans hdef,?_⟩;have f2':=(gZ2.block (L+1) (hlt fZ1) (by simp)).trans fZ1;have kp:∀ a:Addr,a.block≠L+1->a.block≠L+2->F a.block->a.block<Y.heap.size->(Z2.putObj D (.deferred none)).heap[a.block]?=Y.heap[a.block]?:=fun a n1 n2 h2 h3=>(zg fun e=>by rw [<- e] at hfD;exact hfD h2).trans (k2 _ h3 n1 n2);have hwY:=hb1.trans (hG.old.mono (by omega));have b2:=(hwY.trans (zh gZ1 hwY.size (by omega))).trans (zh gZ2 (by have:=hwY.size;omega) (by omega));have ne:∀ {α:Type} {E:Enc α} {T B' cc:Nat} {r:OA} {ll:List α},T≠81->T≠4->OwnS E T B' Y r cc ll->∀ a,r=some a->a.block≠L+1/\a.block≠L+2:=fun {α E T B' cc r ll} t1 t2 h a ha=>by
   obtain⟨_,_,cur,hc⟩:=zo h ha;refine⟨fun e=>?_,fun e=>?_⟩
   ·rw [e,g1] at hc;simp at hc;exact t1 hc.2.symm
   ·rw [e,g2] at hc;simp at hc;exact t2 hc.2.symm
  refine⟨.slice pr ms.length cr,zc (za ((zg (by omega)).trans f2')) (i:=0) rfl,.bool true,zc (za ((zg (by omega)).trans fZ2)) (i:=0) rfl,.inl ⟨hOkI hsm,ms,pr,cr,rfl,by rw [hms,hmix],?_,fun x hx=>?_⟩,qP b2 (by omega) _⟩
  ·exact OwnS.lower (h5.same fun a ha=>kp a (ne (by decide) (by decide) h5 a ha).1 (ne (by decide) (by decide) h5 a ha).2 (h6 a ha) (zo h5 ha).2.1) (by omega)
  ·exact (hG.nest x hx).same fun {α E T c q l} t1 t2 t3 hr=>⟨hr.own.same fun a ha=>kp a (ne t2 t3 hr.own a ha).1 (ne t2 t3 hr.own a ha).2 (hr.inF a ha) (zo hr.own ha).2.1,fun a ha=>(zo hr.own ha).1⟩
 ·rintro D ex pre F Y hD hfD hpre ⟨g1,g2,rfl,g4,g5,g6,g7⟩ hdef;refine⟨_,rfl,hdef,?_⟩;refine⟨.slice none 0 0,zc (za ((zg (by have:=hlt hS1.f3;omega)).trans g5)) (i:=0) rfl,.bool false,zc (za ((zg (by have:=hlt hS1.f3;omega)).trans g6)) (i:=0) rfl,.inr ⟨g4,rfl⟩,qP g7 (by have:=hb1.size;omega) _⟩
end
def qO (m:MixD):List ExD:=if jp m 1=0 then [] else zcX m
abbrev zZ (p:Prg) (V:List UInt8):List ExD:=(z5 p V).flatMap qO
def zcz (p:Prg) (V:List UInt8) (most:Nat):Prop:=zc3 p=some V/\zcE p V/\((z5 p V).map fun m=>jp m 20001).sum<=most
structure MixC (m:MixD):Prop where
 rl:m.rs.length<=48
 wl:m.wr.length<=6
 rs:∀ r∈m.rs,r.1<48/\r.2.length<=1000/\∀ s∈r.2,s<48
 wr:∀ w∈m.wr,w.length<=48
structure CandB (p:Prg) (V:List UInt8):Prop where
 pb:∀ l∈p.threads,∀ P∈zQ V l,PathB p.init.length P
 ml:zcE p V->(z5 p V).length<=5000
 mc:zcE p V->∀ m∈z5 p V,MixC m
 mb:zcE p V->((z5 p V).map fun m=>jp m 20001).sum<=20000->∀ m∈z5 p V,jp m 1≠0->MixB m
 len:zcE p V->((z5 p V).map fun m=>jp m 20001).sum<=20000->(zZ p V).length<=30000
theorem zj0 {lim:Nat}:∀ (fs:List (List Nat)) (n:Nat),n<=lim->∀ k,zen lim fs n=some k->k<=lim
 | [],n,h,k,e=>by cases e;exact h
 | f::fs,n,h,k,e=>by
  unfold zen at e
  split at e
  ·cases e
  ·exact zj0 fs _ (QE ..) k e
theorem zj1 {lim len:Nat}:∀ (m k n:Nat),n<=lim->zfk lim len m k n<=lim
 | 0,k,n,h=>h
 | m+1,k,n,h=>by
  unfold zfk
  split
  ·exact zj1 m _ _ (QE ..)
  ·exact h
theorem zjZ {lim:Nat}:∀ (ws:List (List Nat)) (n:Nat),n<=lim->zfj lim ws n<=lim
 | [],n,h=>h
 | w::ws,n,h=>zjZ ws _ (zj1 _ _ _ h)
theorem zoJ {lim:Nat} (m:MixD) (h:1<=lim):jp m lim<=lim:=by
 unfold jp
 split
 ·exact Gb _
 ·rename_i n e;exact zjZ _ _ (zj0 _ _ h _ e)
theorem ziW (ths:List (List InsD)):∀ (n:Nat) (vals V:List UInt8),1<=vals.length/\je vals=vals->zg5 ths n vals=some V->1<=V.length/\je V=V
 | 0,vals,V,h,e=>by cases e
 | n+1,vals,V,h,e=>by
  unfold zg5 at e
  split at e
  ·cases e
  ·split at e
   ·cases e
   ·split at e
    ·cases e;exact h
    ·refine ziW ths n _ V ⟨?_,zcu _⟩ e;have:=zhE ths h.2;show 1<=(zbb ths vals).length;omega
theorem zkf {p:Prg} {V:List UInt8} (hO:OkG p) (h:zc3 p=some V):1<=V.length/\je V=V :=
 ziW _ _ _ _ ⟨zhI hO.i1,zcu _⟩ h
theorem znx {l:List Nat} (k:Nat):(l.take k).sum<=l.sum:=by
 have:l.sum=(l.take k).sum+(l.drop k).sum:=by rw [<- List.sum_append,JS]
 omega
theorem zqg {m:MixD} {xs ys:List zau} {lim:Nat} (h1:xs.map (·.1)=m.rs.map (·.2)) (h2:ys.map (·.1)=m.wr):zoK lim (xs.map (·.1)) (ys.map (·.1))=jp m lim:=by
 rw [h1,h2];rfl
section
variable {w:Wd} {B most:Nat} {pc:List Value} {p:Prg}
theorem zgN (hB:B<=w.heap.size) (hP:PrgX B w pc p) (hG:GlobE w) (hok:zcC p=true) (hm20:most<=20000) (hCB:∀ V,je V=V->CandB p V) :
  Calls PG 11 #[.agg pc.toArray,i64 most] w fun e w'=>((∃ V,zcz p V most/\∃ (xs:List zcq) (q:OA) (c:Nat),e = .returned (.tuple #[.slice q xs.length c,i64 0])/\xs.map (·.1)=zZ p V/\OwnS exE 55 w.heap.size w' q c xs/\∀ x∈xs,OwnS evE 60 w.heap.size w' x.2.1 x.2.2 x.1.ev)\/((∀ V,¬ zcz p V most)/\e = .returned (.tuple #[.slice none 0 0,i64 5])))/\Bw w w':=by
 have hO:=zc7 hok;refine qX 74 [.agg pc.toArray,i64 most] (.c .p (.s .p (.s .p (.s .p (.c .p (.s .p (.s .p (.c .p (.c .p (.c .p .p)))))))))) Tryz.func11 ?_;obtain⟨L,hL⟩:=nm (w.heap.size);have hpc:=hP.v.size;refine⟨Unit,fun _=>⟨[(1,i64 most),(2,At0 L)],[]⟩,fun _ X=>X.heap[L]?=some (.cells pc.toArray 29 (0,0))/\L<X.heap.size/\Bw w X,⟨(),⟨.cons rfl (.cons (by rw [hL];rfl) .nil),rfl⟩,by rw [hL];exact zz w _,by rw [hL];exact hlt (zz w _),(zba w _)⟩,?_⟩;rintro _ X ⟨f0,sX,hbX⟩;refine brN (Uj (by omega)) (brN (Uj (by omega)) ⟨pc,hpc,za f0,hlt f0,cmo (ziM (UO hB hbX.size) (hP.v.below (hbX.mono hB)) (hG.c.below hbX)) ?_⟩);rintro e Y ⟨m,rfl,hm,hbY⟩;have hm0:m=0:=hm.2 hok;subst hm0;refine brF ?_;have hwY:=zst hbX hbY;have f0:=zb hbY f0;refine⟨pc,hpc,za f0,hlt f0,cmo (zm8 (UO hB hwY.size) (hP.below (hwY.mono hB)) (hG.below hwY) hok) ?_⟩;rintro e Z ⟨(⟨V,qv,cv,hval,rfl,oV⟩ | ⟨hval,rfl⟩),hbZ⟩
 case inr =>
  refine brT ⟨.inr ⟨fun V h=>?_,rfl⟩,(zst hwY hbZ)⟩;have:=h.1;rw [hval] at this
  cases this
 refine brF ?_;obtain⟨hv1,hVd⟩:=zkf hO hval;have hQ:=hCB V hVd;have uniq:∀ V',zcz p V' most->V'=V:=fun V' h=>by
  have:=h.1;rw [hval] at this;exact (Uh this).symm
 have hwZ:=zst hwY hbZ;have f0:=zb hbZ f0;clear hbX hbY hwY;obtain⟨V0,hV0⟩:=nm (V);refine⟨Bool×List MixX×OA×Nat,fun s=>⟨[(1,i64 most),(8,.slice s.2.2.1 s.2.1.length s.2.2.2),(9,.bool s.1)],[]⟩,fun s U=>((s.1=true/\zcE p V/\s.2.1.map (·.m)=z5 p V/\OwnS zgR 87 w.heap.size U s.2.2.1 s.2.2.2 s.2.1/\∀ x∈s.2.1,NInM w.heap.size (fun k=>w.heap.size<=k) U x)\/(s.1=false/\¬ zcE p V))/\Bw w U,?_,?_⟩
 ·refine cmo (zn4 f0 (UO hB hwZ.size) (hP.below (hwZ.mono hB)) hO (hG.below hwZ) oV.row hv1 hVd hQ.pb) ?_;rintro e U ⟨(⟨hmo,ms,q,c,rfl,hms,oM,nM⟩ | ⟨hmo,rfl⟩),hbU⟩
  case inr=>exact⟨(false,[],none,0),(cvE rfl rfl),.inr ⟨rfl,hmo⟩,(zst hwZ hbU)⟩
  exact⟨(true,ms,q,c),(cvE rfl rfl),.inl ⟨rfl,hmo,hms,oM.lower hwZ.size,fun x hx=>(nM x hx).lower hwZ.size⟩,(zst hwZ hbU)⟩
 clear oV hbZ hwZ f0;rintro⟨ok,ms,q,c⟩ X ⟨hor,hbX⟩;dsimp only at hor ⊢;rcases hor with ⟨rfl,hmo,hms,oM,nM⟩ | ⟨rfl,hmo⟩
 case inr =>
  exact brT ⟨.inr ⟨fun V' h=>hmo (by rw [<- uniq V' h];exact h.2.1),rfl⟩,hbX⟩
 refine brF ?_;have hml:ms.length<=5000:=by have:=hQ.ml hmo;rw [<- hms,QQ] at this;exact this
 have hmc:∀ x∈ms,MixC x.m:=fun x hx=>hQ.mc hmo x.m (by rw [<- hms];exact UL.2 ⟨x,hx,rfl⟩);have hsumE:((z5 p V).map fun m=>jp m 20001).sum=(ms.map fun x=>jp x.m 20001).sum:=by
  rw [<- hms,UJ];rfl
 have htake:∀ k,((ms.take k).map fun x=>jp x.m 20001).sum<=(ms.map fun x=>jp x.m 20001).sum:=fun k=>by
  have:=znx (l:=ms.map fun x=>jp x.m 20001) k;rw [<- List.map_take] at this;exact this
 obtain⟨tot,htot⟩:=nm ((ms.map fun x=>jp x.m 20001).sum);have cnt:∀ {Z:Wd} {k lim:Nat} (hk:k<ms.length),OwnS zgR 87 w.heap.size Z q c ms->(∀ x∈ms,NInM w.heap.size (fun k=>w.heap.size<=k) Z x)->1<=lim->lim<=100000->∃ b o,q=some ⟨b,o,none⟩/\Calls PG 25 #[.pointer (some ⟨b,o+k*336,none⟩),i64 lim] Z fun e w'=>e = .returned (i64 (jp ms[k].m lim:Nat))/\Z=w':=fun {Z k lim} hk oM nM h1 h2=>by
  obtain⟨b,o,hq,hb,hat⟩:=oM.row.at hk;have hx:=nM ms[k] (gM hk);have hb1:=hmc ms[k] (gM hk);have hxl:ms[k].xs.length=ms[k].m.rs.length:=by have:=Gl List.length hx.e2;simpa using this
  have hyl:ms[k].ys.length=ms[k].m.wr.length:=by have:=Gl List.length hx.e3;simpa using this
  refine⟨b,o,hq,?_⟩;have:=zp8 (lim:=lim) (r := .slice ms[k].p1 ms[k].m.rs.length ms[k].c1) (hat k hk) hx.r2.own.row hx.r3.own.row (fun y hy=>?_) (fun y hy=>?_) (by have:=hb1.rl;omega) (by have:=hb1.wl;omega) h1 h2
  ·rw [zqg hx.e2 hx.e3] at this;exact this
  ·have h3:y.1∈ms[k].m.rs.map (·.2):=by rw [<- hx.e2];exact UL.2 ⟨y,hy,rfl⟩
   obtain⟨r,hr,he⟩:=UL.1 h3;rw [<- he];exact (hb1.rs r hr).2.1
  ·have h3:y.1∈ms[k].m.wr:=by rw [<- hx.e3];exact UL.2 ⟨y,hy,rfl⟩
   have:=hb1.wr _ h3;omega
 refine⟨Unit,fun _=>⟨[(8,.slice q ms.length c),(10,i64 tot)],[]⟩,fun _ Z=>tot<=most/\X=Z,?_,?_⟩
 ·refine⟨Nat,fun k=>⟨[(1,i64 most),(8,.slice q ms.length c),(10,i64 (((ms.take k).map fun x=>jp x.m 20001).sum:Nat)),(40,i64 ms.length),(41,i64 (k:Nat))],[]⟩,
   fun k Z=>(k<=ms.length/\((ms.take k).map fun x=>jp x.m 20001).sum<=most)/\X=Z,fun k=>ms.length-k,0,(cvE rfl rfl),⟨⟨Gb _,Gb _⟩,rfl⟩,?_⟩
  rintro k _ ⟨⟨hk,hsk⟩,rfl⟩;dsimp only;refine biE (fun hc=>?_) fun hc=>?_
  ·have hc:(k:Int)<(ms.length:Int):=dT hc;have hkl:k<ms.length:=by omega
   obtain⟨b,o,hq,hcall⟩:=cnt (lim:=20001) hkl oM nM (by decide) (by decide);have htk:((ms.take (k+1)).map fun x=>jp x.m 20001).sum=((ms.take k).map fun x=>jp x.m 20001).sum+jp ms[k].m 20001:=by
    rw [tsg hkl,QT,List.sum_append];show _+(jp ms[k].m 20001+0)=_;rw [UN]
   have h1:jp ms[k].m 20001<=20001:=zoJ _ (by decide);subst hq;refine⟨k,rfl,hkl,cmo hcall ?_⟩;rintro e _ ⟨rfl,rfl⟩;refine⟨((((ms.take (k+1)).map fun x=>jp x.m 20001).sum:Nat):Int),?_,?_⟩
   ·rw [htk,Int.natCast_add];exact ze (by omega)
   refine biE (fun hbig=>?_) fun hbig=>?_
   ·have hbig:(most:Int)<((((ms.take (k+1)).map fun x=>jp x.m 20001).sum:Nat):Int):=dT hbig;refine⟨.inr ⟨fun V' h=>?_,rfl⟩,hbX⟩;have h2:=uniq V' h;subst h2;have h3:=h.2.2;rw [hsumE] at h3;have:=htake (k+1);omega
   have hbig:¬ (most:Int)<((((ms.take (k+1)).map fun x=>jp x.m 20001).sum:Nat):Int):=dF hbig;exact nxI (by omega) ⟨k+1,(cvE rfl rfl),⟨⟨hkl,by omega⟩,rfl⟩,zdc (by omega)⟩
  ·have hc:¬ (k:Int)<(ms.length:Int):=dF hc;obtain rfl:k=ms.length:=by omega
   rw [Qz,<- htot] at hsk ⊢;exact⟨(),(cvE rfl rfl),hsk,rfl⟩
 rintro _ _ ⟨htm,rfl⟩;have hCO:zcz p V most:=⟨hval,hmo,by rw [hsumE,<- htot];exact htm⟩;have hsm:((z5 p V).map fun m=>jp m 20001).sum<=20000:=UO hCO.2.2 hm20;have hXs:=hbX.size;refine⟨OA×Nat,fun s=>⟨[(8,.slice q ms.length c),(12,.slice s.1 0 s.2)],[]⟩,fun s Z=>OwnS exE 55 X.heap.size Z s.1 s.2 []/\Bw X Z,?_,?_⟩
 ·exact zcO (E:=exE) Tryz.underlying30 k55 rfl (by show _=333;exact zS) rfl tot (by show 2416*tot<=_;omega) (by unfold maxLen;omega) fun Z oZ hbZ sZ=>⟨(some ⟨X.heap.size,0,none⟩,tot),(cvE rfl rfl),oZ,hbZ⟩
 rintro⟨p0,c0⟩ Y ⟨oY,hbY⟩;dsimp only at oY ⊢;refine⟨List zcq×OA×Nat,fun s=>⟨[(12,.slice s.2.1 s.1.length s.2.2)],[]⟩,fun s Z=>s.1.map (·.1)=zZ p V/\OwnS exE 55 X.heap.size Z s.2.1 s.2.2 s.1/\(∀ x∈s.1,OwnS evE 60 X.heap.size Z x.2.1 x.2.2 x.1.ev)/\Bw X Z,?_,?_⟩
 ·refine⟨Nat×List zcq×OA×Nat,fun s=>⟨[(8,.slice q ms.length c),(12,.slice s.2.2.1 s.2.1.length s.2.2.2),(57,i64 ms.length),(58,i64 (s.1:Nat))],[]⟩,
   fun s Z=>s.1<=ms.length/\s.2.1.map (·.1)=(ms.take s.1).flatMap (fun x=>qO x.m)/\OwnS exE 55 X.heap.size Z s.2.2.1 s.2.2.2 s.2.1/\(∀ x∈s.2.1,OwnS evE 60 X.heap.size Z x.2.1 x.2.2 x.1.ev)/\Bw X Z,fun s=>ms.length-s.1,(0,[],p0,c0),
   (cvE rfl rfl),⟨Gb _,rfl,oY,fun x hx=>(by cases hx),hbY⟩,?_⟩
  clear oY hbY;rintro⟨k,outs,po,co⟩ Z ⟨hk,hou,oZ,nZ,hbZ⟩;dsimp only at hk hou oZ nZ ⊢;have hZs:=hbZ.size;have oMZ:OwnS zgR 87 w.heap.size Z q c ms:=oM.same fun a ha=>hbZ.block _ (zo oM ha).2.1;have nMZ:∀ x∈ms,NInM w.heap.size (fun k=>w.heap.size<=k) Z x:=fun x hx=>(nM x hx).same fun {α E T c q l} _ _ _ hr=>⟨hr.own.same fun a ha=>hbZ.block _ (zo hr.own ha).2.1,hr.inF⟩;refine biE (fun hc=>?_) fun hc=>?_
  ·have hc:(k:Int)<(ms.length:Int):=dT hc;have hkl:k<ms.length:=by omega
   obtain⟨b,o,hq,hcall⟩:=cnt (lim:=1) hkl oMZ nMZ (by decide) (by decide);obtain⟨x,hx⟩:∃ x,ms[k]=x:=⟨_,rfl⟩;have hxm:x∈ms:=by rw [<- hx];exact gM hkl
   have htk:(ms.take (k+1)).flatMap (fun x=>qO x.m)=(ms.take k).flatMap (fun x=>qO x.m)++qO x.m:=by
    rw [tsg hkl,Kj,hx,KV,Qs,QM]
   rw [hx] at hcall;have hat:zx Z ⟨b,o+k*336,none⟩ (zmJ x):=by
    obtain⟨b',o',hq',_,hat⟩:=oMZ.row.at hkl;rw [hq] at hq';have:=hat k hkl;simp only [Qc,Uw,Gk] at hq';rw [<- hx,hq'.1,hq'.2];exact this
   have hbX2:b<X.heap.size:=(zo oM hq).2.1;subst hq;refine⟨k,rfl,hkl,cmo hcall ?_⟩;rintro e _ ⟨rfl,rfl⟩;refine biE (fun h=>?_) fun h=>?_
   ·have h:jp x.m 1=0:=UB (dT h);have hc0:qO x.m=[]:=Gr h;rw [hc0,QM] at htk;exact nxI (by omega) ⟨(k+1,outs,po,co),(cvE rfl rfl),⟨hkl,by rw [hou,htk],oZ,nZ,hbZ⟩,zdc (by omega)⟩
   have h:jp x.m 1≠0:=fun e=>(dF h) (by rw [e];rfl);have hc1:qO x.m=zcX x.m:=Gq h;rw [hc1] at htk;refine⟨k,rfl,hkl,cmo zqj ?_⟩;rintro e U ⟨rfl,fU,sU,hbU⟩;have hxM:=nMZ x hxm;have hxB:=hQ.mb hmo hsm x.m (by rw [<- hms];exact UL.2 ⟨x,hxm,rfl⟩) h;obtain⟨Rd,hRd⟩:∃ Rd:Nat->Prop,Rd=fun k=>k<X.heap.size\/k=Z.heap.size:=⟨_,rfl⟩;have ltX:∀ {α:Type} {E:Enc α} {T cc:Nat} {r:OA} {ll:List α},RowIn E T w.heap.size (fun k=>w.heap.size<=k) X r cc ll->∀ a,r=some a->Rd a.block:=fun {α E T cc r ll} h a ha=>by rw [hRd];exact .inl (zo h.own ha).2.1
   have hX:=nM x hxm;have hM:MixM Rd U b (o+k*336) x.m x.q x.c x.p1 x.p2 x.p3 x.c1 x.c2 x.c3 x.xs x.ys:=by
    have r:∀ {α:Type} {E:Enc α} {T cc:Nat} {r:OA} {ll:List α},RowIn E T w.heap.size (fun k=>w.heap.size<=k) Z r cc ll->SlR E U r ll:=fun {α E T cc r ll} h=>(h.own.below hbU).row;refine⟨zm hbU hat,r hxM.ev,fun e=>?_,r hxM.r1,hxM.e2,r hxM.r2,fun y hy=>r (hxM.n2 y hy),hxM.e3,r hxM.r3,fun y hy=>r (hxM.n3 y hy),by rw [hRd];exact .inl hbX2,ltX hX.ev,ltX hX.r1,ltX hX.r2,ltX hX.r3,fun y hy=>ltX (hX.n2 y hy),fun y hy=>ltX (hX.n3 y hy)⟩;rcases hxM.ev.own.inv with ⟨_,h,_⟩ | ⟨g,cur,h,_⟩
    ·exact h
    ·rw [e] at h;cases h
   have hRl:∀ k,Rd k->k<U.heap.size:=fun k hk=>by
    rw [hRd] at hk;omega
   have hTU:Tz64M U:=hG.t64.below (hbX.trans ((hbZ.trans (hbU.mono hZs)).mono hXs));have htz:=zax hG.t64;have hI:=zqk hM fU (by rw [hRd];exact .inr rfl) hRl hTU (by rw [hRd];left;omega) hxB hxB.ev;have hln:outs.length+(zcX x.m).length<=30000:=by
    have h2:=hQ.len hmo hsm;have h3:(zZ p V)=ms.flatMap (fun x=>qO x.m):=by
     show (z5 p V).flatMap qO=_;rw [<- hms,Qr]
    rw [h3] at h2;have h4:ms.flatMap (fun x=>qO x.m)=(ms.take (k+1)).flatMap (fun x=>qO x.m)++(ms.drop (k+1)).flatMap (fun x=>qO x.m):=(by rw [<- Kj,JS]);rw [h4,htk,<- hou,lap,lap,QQ] at h2;omega
   refine cmo (zkb (oZ.below hbU) (fun y hy=>(nZ y hy).below hbU) (by omega) hI (UY _) (fun k hk=>⟨hRl k hk,rfl⟩) (fun k hk=>by rw [hRd] at hk;exact hk) fU (by omega) hln) ?_;rintro e T ⟨⟨new,pn,cn,rfl,zz,oT,nT⟩,hbT⟩;exact nxI (by omega) ⟨(k+1,outs++new,pn,cn),(cvE rfl rfl),⟨hkl,by rw [QT,hou,zz,htk],oT,nT,(hbZ.trans (hbU.mono hZs)).trans hbT⟩,zdc (by omega)⟩
  ·have hc:¬ (k:Int)<(ms.length:Int):=dF hc;obtain rfl:k=ms.length:=by omega
   rw [Qz] at hou;refine⟨(outs,po,co),(cvE rfl rfl),?_,oZ,nZ,hbZ⟩;rw [hou];show ms.flatMap _=(z5 p V).flatMap qO;rw [<- hms,Qr]
 rintro⟨outs,po,co⟩ Z ⟨hou,oZ,nZ,hbZ⟩;exact⟨.inl ⟨V,hCO,outs,po,co,rfl,hou,oZ.lower hXs,fun x hx=>(nZ x hx).lower hXs⟩,hbX.trans (hbZ.mono hXs)⟩
end
def zbJ:List (List Nat)->Nat
 | []=>1
 | f::fs=>f.length*zbJ fs
theorem zfv {a b lim:Nat} (hb:1<=b):min (min a lim*b) lim=min (a*b) lim:=by
 by_cases ha:a<=lim
 ·rw [Uc ha]
 ·have e:min a lim=lim:=Nat.min_eq_right (by omega);have h2:lim<=lim*b:=Nat.le_mul_of_pos_right _ (by omega);have h3:lim<=a*b:=UO (by omega) (Nat.le_mul_of_pos_right a (by omega:0<b));rw [e,Nat.min_eq_right h2,Nat.min_eq_right h3]
theorem zeE:∀ fs:List (List Nat),(∀ f∈fs,f≠[])->1<=zbJ fs
 | [],_=>UY _
 | f::fs,h=>Nat.mul_pos (List.length_pos_iff.2 (h f KC)) (zeE fs fun g hg=>h g (Ka _ hg))
theorem ziD {lim:Nat}:∀ (fs:List (List Nat)) (n:Nat),n<=lim->(∀ f∈fs,f≠[])->zen lim fs n=some (min (n*zbJ fs) lim)
 | [],n,h,_=>by
  show some n=some (min (n*1) lim);rw [UZ,Uc h]
 | f::fs,n,h,hf=>by
  have h1:f≠[]:=hf f KC;have hp:1<=f.length:=List.length_pos_iff.2 h1;unfold zen;rw [Gq h1,ziD fs _ (QE ..) fun g hg=>hf g (Ka _ hg)];congr 1;show min (min (n*f.length) lim*zbJ fs) lim=min (n*(f.length*zbJ fs)) lim;rw [<- UG,zfv (zeE fs fun g hg=>hf g (Ka _ hg))]
theorem zhL {lim:Nat}:∀ (fs:List (List Nat)) (n:Nat),(∃ f∈fs,f=[])->zen lim fs n=none
 | [],n,⟨f,h,_⟩=>by cases h
 | f::fs,n,⟨g,hg,e⟩=>by
  unfold zen;by_cases h1:f=[]
  ·rw [Gr h1]
  ·rw [Gq h1];refine zhL fs _ ⟨g,?_,e⟩;rcases UE.1 hg with h | h
   ·rw [h] at e;exact Gs e h1
   ·exact h
def up (len:Nat):Nat->Nat->Nat
 | 0,_=>1
 | m+1,k=>if k<len then k*up len m (k+1) else 1
theorem zni (len:Nat):∀ m k,1<=k->1<=up len m k
 | 0,_,_=>UY _
 | m+1,k,h=>by
  unfold up
  split
  ·exact Nat.mul_pos h (zni len m (k+1) (by omega))
  ·exact UY _
theorem zl2 {lim len:Nat}:∀ (m k n:Nat),1<=k->n<=lim->zfk lim len m k n=min (n*up len m k) lim
 | 0,k,n,_,h=>by
  show n=min (n*1) lim;rw [UZ,Uc h]
 | m+1,k,n,hk,h=>by
  unfold zfk up
  split
  ·rw [zl2 m (k+1) _ (by omega) (QE ..),zfv (zni len m (k+1) (by omega)),UG]
  ·rw [UZ,Uc h]
theorem znj:∀ (m k:Nat),1<=k->∀ len,len<=k+m->k<=len->fct (k-1)*up len m k=fct (len-1)
 | 0,k,h1,len,h2,h3=>by
  show fct (k-1)*1=_;rw [UZ,show len=k by omega]
 | m+1,k,h1,len,h2,h3=>by
  unfold up
  split
  ·rename_i hlt;rw [<- znj m (k+1) (by omega) len (by omega) (by omega),<- UG];congr 1;obtain⟨j,rfl⟩:∃ j,k=j+1:=⟨k-1,by omega⟩;show fct j*(j+1)=(j+1)*fct j;exact UP _ _
  ·rw [UZ,show len=k by omega]
theorem zqL {len:Nat} (h:1<=len):up len len 2=fct (len-1):=by
 by_cases h2:2<=len
 ·have:=znj len 2 (by decide) len (by omega) h2;have h3:fct (2-1)=1:=rfl;rw [h3,Ga] at this;exact this
 ·have e:len=1:=by omega
  subst e;rfl
def zbI:List (List Nat)->Nat
 | []=>1
 | w::ws=>fct (w.length-1)*zbI ws
theorem zb7:∀ ws,1<=zbI ws
 | []=>UY _
 | w::ws=>Nat.mul_pos (zde _) (zb7 ws)
theorem zl1 {lim:Nat}:∀ (ws:List (List Nat)) (n:Nat),n<=lim->(∀ w∈ws,1<=w.length)->zfj lim ws n=min (n*zbI ws) lim
 | [],n,h,_=>by
  show n=min (n*1) lim;rw [UZ,Uc h]
 | w::ws,n,h,hw=>by
  unfold zfj;rw [zl2 _ _ _ (by decide) h,zqL (hw w KC),zl1 ws _ (QE ..) fun v hv=>hw v (Ka _ hv),zfv (zb7 ws)];show _=min (n*(fct (w.length-1)*zbI ws)) lim;rw [UG]
theorem zfz {m:MixD} {lim:Nat} (h1:1<=lim) (hw:∀ w∈m.wr,1<=w.length):jp m lim=if ∀ r∈m.rs,r.2≠[] then min (zbJ (m.rs.map (·.2))*zbI m.wr) lim else 0:=by
 unfold jp
 split
 ·rename_i e;rw [Gq];intro h;rw [ziD _ _ h1 fun f hf=>by
   obtain⟨r,hr,rfl⟩:=UL.1 hf;exact h r hr] at e
  cases e
 ·rename_i n e;by_cases h:∀ r∈m.rs,r.2≠[]
  ·rw [Gr h];rw [ziD _ _ h1 fun f hf=>by
    obtain⟨r,hr,rfl⟩:=UL.1 hf;exact h r hr] at e
   have e:=Uh e;rw [zl1 _ _ (by rw [<- e];exact QE ..) hw,<- e,Ga,zfv (zb7 _)]
  ·rw [zhL] at e
   ·cases e
   ·refine Jp fun hn=>h fun r hr e2=>hn ⟨r.2,UL.2 ⟨r,hr,rfl⟩,e2⟩
theorem zfb {m:MixD} (hw:∀ w∈m.wr,1<=w.length):jp m 1≠0↔∀ r∈m.rs,r.2≠[]:=by
 rw [zfz (by decide) hw];constructor
 ·intro h;refine Jp fun hn=>h (Gq hn)
 ·intro h;rw [Gr h];have h1:1<=zbJ (m.rs.map (·.2)):=zeE _ fun f hf=>by
   obtain⟨r,hr,rfl⟩:=UL.1 hf;exact h r hr
  have h2:1<=zbJ (m.rs.map (·.2))*zbI m.wr:=Nat.mul_pos h1 (zb7 _);rw [Nat.min_eq_right h2];decide
theorem zm1 (m:MixD):(zcX m).length=zT (zG m).reverse:=by
 unfold zcX z6;rw [QQ,QQ,KY]
theorem zlz:∀ rs:List (Nat×List Nat),zT (rs.map fun r=>r.2.length)=zbJ (rs.map (·.2))
 | []=>rfl
 | r::rs=>by
  show r.2.length*zT (rs.map fun r=>r.2.length)=r.2.length*zbJ (rs.map (·.2));rw [zlz rs]
theorem zly:∀ ws:List (List Nat),(∀ w∈ws,1<=w.length/\w.length<=48)->zT (ws.map fun w=>(zB w).length)<=zbI ws
 | [],_=>UY _
 | w::ws,h=>by
  show (zB w).length*zT (ws.map fun w=>(zB w).length)<=fct (w.length-1)*zbI ws;have h1:=h w KC;exact Us (zfT h1.1 h1.2).1 (zly ws fun v hv=>h v (Ka _ hv))
theorem zoN {m:MixD} (hw:∀ w∈m.wr,1<=w.length/\w.length<=48) (h:jp m 20001<=20000):(qO m).length<=jp m 20001:=by
 unfold qO
 split
 ·exact Gb _
 ·rename_i h1;have hs:=(zfb fun w hm=>(hw w hm).1).1 h1;have e:=zfz (m:=m) (lim:=20001) (by decide) fun w hm=>(hw w hm).1;rw [Gr hs] at e;have hp:zbJ (m.rs.map (·.2))*zbI m.wr=jp m 20001:=by
   by_cases hb:zbJ (m.rs.map (·.2))*zbI m.wr<=20001
   ·rw [e,Uc hb]
   ·rw [Nat.min_eq_right (by omega)] at e;omega
  rw [zm1,<- hp];unfold zG;have e2:zT (m.rs.map (fun r=>r.2.length)++m.wr.map fun w=>(zB w).length).reverse=zT (m.rs.map (fun r=>r.2.length)++m.wr.map fun w=>(zB w).length):=by
   rw [zeF];unfold za7;rw [zeN,Ga]
  rw [e2,zb8,zlz];exact Nat.mul_le_mul_left _ (zly _ hw)
theorem zkQ {m:MixD} (hw:∀ w∈m.wr,1<=w.length) {lim:Nat} (hl:1<=lim) (h:jp m lim<lim) (h1:jp m 1≠0):∀ w∈m.wr,fct (w.length-1)<lim:=by
 have hs:=(zfb hw).1 h1;have e:=zfz (m:=m) hl hw;rw [Gr hs] at e;have hp:zbJ (m.rs.map (·.2))*zbI m.wr<lim:=by
  refine QC fun hb=>?_;rw [Nat.min_eq_right hb] at e;omega
 have h2:1<=zbJ (m.rs.map (·.2)):=by
  refine Nat.one_le_iff_ne_zero.2 fun h0=>?_;rw [h0,UU,Nat.zero_min] at e;have e1:=zfz (m:=m) (lim:=1) (by decide) hw;rw [Gr hs,h0,UU,Nat.zero_min] at e1;exact h1 e1
 have h3:zbI m.wr<lim:=KH (Nat.le_mul_of_pos_left _ (by omega)) hp;have:∀ ws:List (List Nat),∀ w∈ws,fct (w.length-1)<=zbI ws:=by
  intro ws
  induction ws with
  | nil=>intro w h;cases h
  | cons v ws ih =>
   intro w h;show _<=fct (v.length-1)*zbI ws;rcases UE.1 h with e | e
   ·rw [e];exact Nat.le_mul_of_pos_right _ (zb7 ws)
   ·exact UO (ih w e) (Nat.le_mul_of_pos_left _ (zde _))
 exact fun w hm=>KH (this _ w hm) h3
def zeP:Nat->List PathD->List Ev
 | _,[]=>[]
 | k,P::Ps=>zbm k P.ev++zeP (k+1) Ps
theorem zgJ:∀ (Ps:List PathD) (k:Nat) (x:ExD),(asR k Ps x).ev=x.ev++zeP k Ps/\(asR k Ps x).po=x.po/\(asR k Ps x).rf=x.rf/\(asR k Ps x).co=x.co/\(asR k Ps x).mem=x.mem/\(asR k Ps x).dt.n=x.dt.n/\(asR k Ps x).ct.n=x.ct.n/\(asR k Ps x).rm.n=x.rm.n
 | [],k,x=>⟨(QM _).symm,rfl,rfl,rfl,rfl,rfl,rfl,rfl⟩
 | P::Ps,k,x=>by
  obtain⟨h1,h2⟩:=zgJ Ps (k+1) (zbZ x k P);refine⟨?_,h2⟩;show (asR (k+1) Ps (zbZ x k P)).ev=x.ev++(zbm k P.ev++zeP (k+1) Ps);rw [h1,<- KS];rfl
theorem zjL:∀ (Ps:List PathD) (k n:Nat),Ps.foldl (fun n P=>n+P.ev.length) n=n+(zeP k Ps).length
 | [],k,n=>rfl
 | P::Ps,k,n=>by
  show Ps.foldl _ (n+P.ev.length)=n+(zbm k P.ev++zeP (k+1) Ps).length;rw [zjL Ps (k+1),lap];unfold zbm;rw [QQ,UF]
theorem zgy:∀ (Ps:List PathD) (k:Nat) (e:Ev),e∈zeP k Ps->∃ P∈Ps,∃ a∈P.ev,∃ t:Nat,k<=t/\t<k+Ps.length/\e={ a with th:=t }
 | [],k,e,h=>by cases h
 | P::Ps,k,e,h=>by
  rcases QU.1 h with h | h
  ·obtain⟨a,ha,rfl⟩:=UL.1 h;exact⟨P,KC,a,ha,k,UY _,by rw [Qv];omega,rfl⟩
  ·obtain⟨Q,hQ,a,ha,t,h1,h2,h3⟩:=zgy Ps (k+1) e h;exact⟨Q,Ka _ hQ,a,ha,t,by omega,by rw [Qv];omega,h3⟩
section
variable {init:List UInt8} {Ps:List PathD}
theorem zet:(jw init Ps).ev=jn 0 init++zeP 0 Ps:=(zgJ Ps 0 _).1
theorem zoV:(jw init Ps).ev.length=zbn init.length Ps:=by
 rw [zet,lap,qm];exact (zjL Ps 0 init.length).symm
theorem zcg:(jw init Ps).rf=zcG (zbn init.length Ps)/\(jw init Ps).co=zcG (zbn init.length Ps)/\(jw init Ps).mem=(fun _=>0)/\(jw init Ps).dt.n=zbn init.length Ps/\(jw init Ps).ct.n=zbn init.length Ps/\(jw init Ps).rm.n=zbn init.length Ps:=by
 obtain⟨_,_,h1,h2,h3,h4,h5,h6⟩:=zgJ Ps 0 { ex0 (zbn init.length Ps) with ev:=jn 0 init };exact⟨h1,h2,h3,h4,h5,h6⟩
theorem zm4 {i:Nat} (h:i<init.length):(jw init Ps).ev[i]?=some ⟨-1,2,UInt8.ofNat i,init[i],0,0,0⟩:=by
 rw [zet,Jr (by rw [qm];exact h),zbk init 0 h,UT]
theorem zoU {e:Ev} (h:e∈(jw init Ps).ev):(∃ i,∃ h:i<init.length,e=⟨-1,2,UInt8.ofNat i,init[i],0,0,0⟩)\/∃ P∈Ps,∃ a∈P.ev,∃ t:Nat,t<Ps.length/\e={ a with th:=t }:=by
 rw [zet] at h;rcases QU.1 h with h | h
 ·obtain⟨i,hi,rfl⟩:=Kl h;rw [qm] at hi;have:=zbk init 0 hi;rw [gE (by rw [qm];exact hi),UT] at this;exact .inl ⟨i,hi,Uh this⟩
 ·obtain⟨P,hP,a,ha,t,_,h2,h3⟩:=zgy Ps 0 e h;exact .inr ⟨P,hP,a,ha,t,by omega,h3⟩
theorem zch (hi6:init.length<=6) (hP:∀ P∈Ps,PathW init.length P) {e:Ev} (h:e∈(jw init Ps).ev) (hk:e.k=1\/e.k=2):e.l.toNat<init.length:=by
 rcases zoU h with ⟨i,hi,rfl⟩ | ⟨P,hPm,a,ha,t,_,rfl⟩
 ·show (UInt8.ofNat i).toNat<_;rw [KK];omega
 ·exact (hP P hPm).b.loc a ha hk
end
def wrF:Nat->List Ev->Nat->List Nat
 | _,[],_=>[]
 | i,e::es,l=>(if e.k=2/\e.l.toNat=l then [i] else [])++wrF (i+1) es l
theorem zhV:∀ (es:List Ev) (i:Nat) (W:List (List Nat)),(∀ e∈es,e.k=2->e.l.toNat<W.length)->(zfD i es W).length=W.length/\∀ l,l<W.length->(zfD i es W).getD l []=W.getD l []++wrF i es l
 | [],i,W,h=>⟨rfl,fun l hl=>(QM _).symm⟩
 | e::es,i,W,h=>by
  unfold zfD;by_cases hk:e.k=2
  ·rw [Gr hk];obtain⟨V,hV⟩:=nm (W.set e.l.toNat (W.getD e.l.toNat []++[i]));have hVl:V.length=W.length:=by rw [hV,QS]
   obtain⟨h1,h2⟩:=zhV es (i+1) V fun d hd hd2=>by rw [hVl];exact h d (Ka _ hd) hd2
   rw [<- hV];refine⟨h1.trans hVl,fun l hl=>?_⟩;rw [h2 l (by omega)];show _=W.getD l []++((if e.k=2/\e.l.toNat=l then [i] else [])++wrF (i+1) es l);rw [<- KS];congr 1;rw [hV,gDe];by_cases hel:e.l.toNat=l
   ·rw [Gr ⟨hk,hel⟩,hel,JH hl];rfl
   ·rw [Gq fun h=>hel h.2,JY hel,QM,gDe]
  ·rw [Gq hk];obtain⟨h1,h2⟩:=zhV es (i+1) W fun d hd=>h d (Ka _ hd);refine⟨h1,fun l hl=>?_⟩;rw [h2 l hl];show _=W.getD l []++((if e.k=2/\e.l.toNat=l then [i] else [])++wrF (i+1) es l);rw [Gq fun h=>hk h.1,QW]
theorem znf:∀ (es:List Ev) (i l:Nat),wrF i es l=((List.range es.length).filter fun j=>decide ((es.getD j ev0).k=2)&&decide ((es.getD j ev0).l.toNat=l)).map (· + i)
 | [],i,l=>rfl
 | e::es,i,l=>by
  unfold wrF;rw [znf es (i+1) l,Qv,List.range_succ_eq_map,Qq,List.filter_map];have e0:(e::es).getD 0 ev0=e:=rfl;rw [e0];have ee:∀ j,(e::es).getD (Nat.succ j) ev0=es.getD j ev0:=fun j=>rfl;have hm:∀ L:List Nat,(L.map Nat.succ).map (· + i)=L.map (· + (i+1)):=fun L=>by
   rw [UJ];exact Kn fun j _=>by show j.succ+i=j+(i+1);omega
  by_cases hk:e.k=2/\e.l.toNat=l
  ·rw [Gr hk,Uu hk.1,Uu hk.2,Gr (show (true&&true)=true from rfl),UD,hm,UT];rfl
  ·rw [Gq hk];have:(decide (e.k=2)&&decide (e.l.toNat=l))=false:=by
    rw [Bool.and_eq_false_iff];by_cases h1:e.k=2
    ·exact .inr (Uj fun h=>hk ⟨h1,h⟩)
    ·exact .inl (Uj h1)
   rw [this,Gq Kx,hm];rfl
theorem zc5 (all:List Ev) (W:List (List Nat)):∀ (es:List Ev) (i:Nat) (r:Nat×List Nat),r∈zbv all W i es->∃ j e,es[j]?=some e/\e.k=1/\r=(i+j,(W.getD e.l.toNat []).filter fun w=>decide ((all.getD w ev0).v=e.v))
 | [],i,r,h=>by cases h
 | e::es,i,r,h=>by
  unfold zbv at h
  split at h
  ·rename_i hk;rcases UE.1 h with h | h
   ·exact⟨0,e,rfl,hk,by rw [h];rfl⟩
   ·obtain⟨j,d,h1,h2,h3⟩:=zc5 all W es (i+1) r h;exact⟨j+1,d,h1,h2,by rw [h3,show i+1+j=i+(j+1) by omega]⟩
  ·obtain⟨j,d,h1,h2,h3⟩:=zc5 all W es (i+1) r h;exact⟨j+1,d,h1,h2,by rw [h3,show i+1+j=i+(j+1) by omega]⟩
theorem zjg (all:List Ev) (W:List (List Nat)):∀ (es:List Ev) (i:Nat),(zbv all W i es).length<=es.length
 | [],i=>UY _
 | e::es,i=>by
  have:=zjg all W es (i+1);unfold zbv
  split
  ·rw [Qv,Qv];omega
  ·rw [Qv];omega
structure ChoiceW (init:List UInt8) (Ps:List PathD) (m:MixD):Prop where
 i1:1<=init.length
 i6:init.length<=6
 p4:Ps.length<=4
 P:∀ P∈Ps,PathW init.length P
 n:zbn init.length Ps<=48
 m:m=jT (jw init Ps) init.length
section
variable {init:List UInt8} {Ps:List PathD} {m:MixD}
theorem ChoiceW.base (h:ChoiceW init Ps m):m.base=jw init Ps:=by rw [h.m];rfl
theorem ChoiceW.len (h:ChoiceW init Ps m):m.base.ev.length=zbn init.length Ps:=by rw [h.base,zoV]
theorem ChoiceW.wr (h:ChoiceW init Ps m):m.wr.length=init.length/\∀ l,l<init.length->m.wr.getD l []=zW m.base l:=by
 obtain⟨h1,h2⟩:=zhV (jw init Ps).ev 0 (List.replicate init.length []) fun e he hk=>by
  rw [JP];exact zch h.i6 h.P he (.inr hk)
 rw [JP] at h1 h2;have e:m.wr=zfD 0 (jw init Ps).ev (List.replicate init.length []):=by rw [h.m];rfl
 rw [e];refine⟨h1,fun l hl=>?_⟩;rw [h2 l hl,znf,gDe,List.getElem?_replicate,Gr hl,h.base];show []++List.map (· + 0) _=_;rw [QW];show List.map (fun x=>x) _=_;rw [List.map_id'];rfl
theorem ChoiceW.wr_mem (h:ChoiceW init Ps m) {w:List Nat} (hw:w∈m.wr):∃ l,l<init.length/\w=zW m.base l/\m.wr[l]?=some w:=by
 obtain⟨h1,h2⟩:=h.wr;obtain⟨l,hl,rfl⟩:=Kl hw;refine⟨l,by omega,?_,gE hl⟩;have:=h2 l (by omega);rw [gDe,gE hl] at this;exact this
theorem ChoiceW.ini (h:ChoiceW init Ps m) {i:Nat} (hi:i<init.length):evA m.base i=⟨-1,2,UInt8.ofNat i,init[i],0,0,0⟩:=by
 unfold evA;rw [h.base,gDe,zm4 hi];rfl
theorem zfl (x:ExD) (l:Nat):(zW x l).length<=x.ev.length:=by
 refine UO (JO ..) ?_;rw [KY];exact UY _
theorem zdt {x:ExD} {l a:Nat} (h:a∈zW x l):a<x.ev.length:=Uq.1 (QV.1 h).1
theorem ChoiceW.head (h:ChoiceW init Ps m) {l:Nat} (hl:l<init.length):1<=(zW m.base l).length/\(zW m.base l).headD 48=l:=by
 have h6:=h.i6;have hn:init.length<=m.base.ev.length:=by
  rw [h.len];exact zfJ _ _
 have e:=ze9 (p:=fun i=>decide ((evA m.base i).k=2)&&decide ((evA m.base i).l.toNat=l)) (n:=m.base.ev.length) (k:=l) (by omega) (fun i hi=>by
  rw [h.ini (by omega)];have:¬ (UInt8.ofNat i).toNat=l:=by rw [KK];omega
  rw [Uj this,Uk]) (by
  rw [h.ini hl];have:(UInt8.ofNat l).toNat=l:=by rw [KK];omega
  rw [Uu this];rfl)
 unfold zW;rw [e];exact⟨by simp,rfl⟩
theorem ChoiceW.rs (h:ChoiceW init Ps m) {r:Nat×List Nat} (hr:r∈m.rs):∃ e,m.base.ev[r.1]?=some e/\e.k=1/\r.2=(m.wr.getD e.l.toNat []).filter fun w=>decide ((m.base.ev.getD w ev0).v=e.v):=by
 rw [h.m] at hr ⊢;obtain⟨j,e,h1,h2,h3⟩:=zc5 _ _ _ _ _ hr;rw [UT] at h3;exact⟨e,by rw [h3];exact h1,h2,by rw [h3];rfl⟩
theorem ChoiceW.src (h:ChoiceW init Ps m) {r:Nat×List Nat} (hr:r∈m.rs):r.1<m.base.ev.length/\r.2.length<=48/\∀ s∈r.2,s<m.base.ev.length:=by
 have hn:=h.n;rw [<- h.len] at hn;obtain⟨e,h1,h2,h3⟩:=h.rs hr;have hlt:=(Js.1 h1).1;have hel:e.l.toNat<init.length:=by
  have:e∈(jw init Ps).ev:=by rw [<- h.base];exact Kb h1
  exact zch h.i6 h.P this (.inl h2)
 rw [h.wr.2 _ hel] at h3;refine⟨hlt,?_,fun s hs=>?_⟩
 ·rw [h3];have h4:=zfl m.base e.l.toNat;have h5:=JO (fun w=>decide ((m.base.ev.getD w ev0).v=e.v)) (zW m.base e.l.toNat);omega
 ·rw [h3] at hs;exact zdt (QV.1 hs).1
theorem ChoiceW.c (h:ChoiceW init Ps m):MixC m:=by
 have hn:=h.n;rw [<- h.len] at hn;refine⟨?_,?_,fun r hr=>?_,fun w hw=>?_⟩
 ·have:m.rs.length<=m.base.ev.length:=by
   rw [h.m];exact zjg _ _ _ _
  omega
 ·rw [h.wr.1];exact h.i6
 ·obtain⟨h1,h2,h3⟩:=h.src hr;exact⟨by omega,by omega,fun s hs=>by have:=h3 s hs;omega⟩
 ·obtain⟨l,hl,rfl,_⟩:=h.wr_mem hw;have:=zfl m.base l;omega
theorem ChoiceW.w1 (h:ChoiceW init Ps m) {w:List Nat} (hw:w∈m.wr):1<=w.length/\w.length<=48:=by
 refine⟨?_,h.c.wr w hw⟩;obtain⟨l,hl,rfl,_⟩:=h.wr_mem hw;exact (h.head hl).1
theorem ChoiceW.b (h:ChoiceW init Ps m):MixB m:=by
 have hn:=h.n;rw [<- h.len] at hn;obtain⟨b1,b2,b3,_⟩:=zcg (init:=init) (Ps:=Ps);have hc:=h.c;refine⟨hn,hc.rl,hc.wl,fun i _=>?_,fun i _=>?_,hc.rs,fun w hw=>?_⟩
 ·rw [h.base,b1];show 0<2^64;decide
 ·rw [h.base,b2];show 0<2^64;decide
 ·obtain⟨h1,h2⟩:=h.w1 hw;refine⟨h2,(zfT h1 h2).2,fun k hk=>?_⟩;have hp:=(zhn h1 h2 hk).1;have hl:=hp.length_eq;refine⟨fun e=>by rw [e] at hl;simp at hl;omega,by omega,fun a ha=>?_⟩;obtain⟨l,hl,rfl,_⟩:=h.wr_mem hw;exact zdt (hp.subset ha)
end
theorem zhq:∀ (Ts:List (List PathD)) (ds:List Nat) (P:PathD),P∈zaL Ts ds->∃ T∈Ts,P∈T
 | Ts,[],P,h=>by cases Ts <;> cases h
 | [],d::ds,P,h=>by cases h
 | T::Ts,d::ds,P,h=>by
  unfold zaL at h;rcases QU.1 h with h | h
  ·cases hd:T[d]? with
   | none=>rw [hd] at h;cases h
   | some Q =>
    rw [hd] at h;rw [KD.1 h];exact⟨T,KC,Kb hd⟩
  ·obtain⟨U,hU,h2⟩:=zhq Ts ds P h;exact⟨U,Ka _ hU,h2⟩
theorem zhr:∀ (Ts:List (List PathD)) (ds:List Nat),(zaL Ts ds).length<=Ts.length
 | Ts,[]=>by cases Ts <;> exact Gb _
 | [],d::ds=>UY _
 | T::Ts,d::ds=>by
  unfold zaL;rw [lap,Qv];have:=zhr Ts ds
  cases T[d]? <;> simp <;> omega
section
variable {p:Prg} {V:List UInt8}
theorem zjo (hO:OkG p) {l:List InsD} (hl:l∈p.threads) {P:PathD} (hP:P∈zQ V l):PathW p.init.length P:=by
 obtain⟨R,hR,rfl⟩:=UL.1 hP;have h1:=hO.tl l hl;rw [hO.il] at h1;obtain⟨a,b⟩:=zrn h1 V R hR;exact zq1 a b
theorem zdk (hO:OkG p) {m:MixD} (hm:m∈z5 p V):∃ ds∈z6 ((p.threads.map (zQ V)).map List.length),ChoiceW p.init (zaL (p.threads.map (zQ V)) ds) m:=by
 unfold z5 zn3 at hm;obtain⟨ds,hds,he⟩:=List.mem_filterMap.1 hm;unfold zim at he
 split at he
 ·rename_i h48;refine⟨ds,hds,hO.i1,hO.i6,?_,fun P hP=>?_,h48,(Uh he).symm⟩
  ·have:=zhr (p.threads.map (zQ V)) ds;rw [QQ] at this;have:=hO.t4;omega
  ·obtain⟨T,hT,h2⟩:=zhq _ _ _ hP;obtain⟨l,hl,rfl⟩:=UL.1 hT;exact zjo hO hl h2
 ·cases he
theorem zny {α:Type} {f g:α->Nat}:∀ {l:List α},(∀ a∈l,f a<=g a)->(l.map f).sum<=(l.map g).sum
 | [],_=>UY _
 | a::l,h=>by
  rw [UD,UD,List.sum_cons,List.sum_cons];have:=h a KC;have:=zny (l:=l) fun b hb=>h b (Ka _ hb);omega
theorem zkJ {α:Type} {f:α->Nat}:∀ {l:List α} {a:α},a∈l->f a<=(l.map f).sum
 | b::l,a,h=>by
  rw [UD,List.sum_cons];rcases UE.1 h with e | e
  ·rw [e];omega
  ·have:=zkJ (f:=f) e;omega
theorem zgH (hO:OkG p):CandB p V:=by
 refine⟨fun l hl P hP=>(zjo hO hl hP).b,fun hm=>?_,fun hm m hmm=>?_,fun hm hs m hmm h1=>?_,fun hm hs=>?_⟩
 ·have h1:(z5 p V).length<=(z6 ((p.threads.map (zQ V)).map List.length)).length:=List.length_filterMap_le _ _;have h2:(z6 ((p.threads.map (zQ V)).map List.length)).length=zT ((p.threads.map (zQ V)).map List.length).reverse:=by
   unfold z6;rw [QQ,KY]
  have h3:=hm.2.1 p.threads.length (UY _);rw [Qz] at h3;rw [zeF] at h2;have h4:za7 ((p.threads.map (zQ V)).map List.length)<=4096:=by rw [UJ];exact h3
  omega
 ·obtain⟨_,_,h⟩:=zdk hO hmm;exact h.c
 ·obtain⟨_,_,h⟩:=zdk hO hmm;exact h.b
 ·show ((z5 p V).flatMap qO).length<=30000;rw [List.length_flatMap];have:((z5 p V).map fun m=>(qO m).length).sum<=((z5 p V).map fun m=>jp m 20001).sum:=zny fun m hmm=>by
   obtain⟨_,_,h⟩:=zdk hO hmm;refine zoN (fun w hw=>h.w1 hw) ?_;have:=zkJ (f:=fun m=>jp m 20001) hmm;omega
  omega
end
def zbP (p:Prg) (V:List UInt8) (most:Nat):Bool :=
 zcC p&&(decide (zc3 p=some V)&&((p.threads.all fun l=>decide ((jv l V).length<=4096))&&(((List.range (p.threads.length+1)).all fun k=>decide (za7 ((p.threads.take k).map fun l=>(zQ V l).length)<=4096)) &&
  (((z6 ((p.threads.map (zQ V)).map List.length)).all fun ds=>(zim p.init (zaL (p.threads.map (zQ V)) ds)).isSome)&&decide (((z5 p V).map fun m=>jp m 20001).sum<=most)))))
theorem zhN {p:Prg} {V:List UInt8} {most:Nat} (h:zbP p V most=true):zcC p=true/\zcz p V most:=by
 unfold zbP at h;simp only [bAT,dE,Qm,Uq] at h;obtain⟨h1,h2,h3,h4,h5,h6⟩:=h;exact⟨h1,h2,⟨h3,fun k hk=>h4 k (by omega),h5⟩,h6⟩
section
variable {w:Wd} {B most:Nat} {pc:List Value} {p:Prg} {V:List UInt8}
theorem zew (hB:B<=w.heap.size) (hP:PrgX B w pc p) (hG:GlobE w) (hm20:most<=20000) (hq:zbP p V most=true) :
  Calls PG 11 #[.agg pc.toArray,i64 most] w fun e w'=>(∃ (xs:List zcq) (q:OA) (c:Nat),e = .returned (.tuple #[.slice q xs.length c,i64 0])/\xs.map (·.1)=zZ p V/\OwnS exE 55 w.heap.size w' q c xs/\∀ x∈xs,OwnS evE 60 w.heap.size w' x.2.1 x.2.2 x.1.ev)/\Bw w w':=by
 obtain⟨hok,hc⟩:=zhN hq;refine cmo (zgN hB hP hG hok hm20 fun V _=>zgH (zc7 hok)) ?_;rintro e X ⟨(⟨V',h1,h2⟩ | ⟨h1,_⟩),hb⟩
 ·have:V'=V:=by
   have e1:=h1.1;rw [hc.1] at e1;exact (Uh e1).symm
  subst this;exact⟨h2,hb⟩
 ·exact Gs hc (h1 V)
theorem zpg {M:Nat} (hB:B<=w.heap.size) (hP:PrgX B w pc p) (hG:GlobE w) (hm20:most<=20000) (hq:zbP p V M=true) (hn:decide (most<((z5 p V).map fun m=>jp m 20001).sum)=true) :
  CB 11 #[.agg pc.toArray,i64 most] w (.tuple #[.slice none 0 0,i64 5]):=by
 obtain⟨hok,hc⟩:=zhN hq;refine cmo (zgN hB hP hG hok hm20 fun V _=>zgH (zc7 hok)) ?_;rintro e X ⟨(⟨V',h1,h2⟩ | ⟨h1,h2⟩),hb⟩
 ·have:V'=V:=by
   have e1:=h1.1;rw [hc.1] at e1;exact (Uh e1).symm
  subst this;have:=dT hn;have:=h1.2.2;omega
 ·exact⟨h2,hb⟩
end
def stI (l v m:UInt8):InsD:=⟨2,0,l,false,v,false,0,0,m,0⟩
def ldI (d l m:UInt8):InsD:=⟨1,d,l,false,0,false,0,0,m,0⟩
def feI:InsD:=⟨7,0,0,false,0,false,0,0,3,0⟩
def p1P:Prg:=onP [[stI 0 1 0],[ldI 0 0 0]]
def p2P:Prg:=onP [[stI 0 1 0],[stI 0 1 0],[ldI 0 0 0]]
def p3P:Prg:=onP [[ldI 0 0 0,stI 0 1 0]]
def p4P:Prg:=onP [[feI]]
theorem zsC:zbP p1P [0,1] 9=true:=by kernel_rfl
theorem zsa:zbP p2P [0,1] 9=true:=by kernel_rfl
theorem zsB:zbP p3P [0,1] 9=true:=by kernel_rfl
theorem zsA:zbP p4P [0] 9=true:=by kernel_rfl
theorem zpv:decide (5<((z5 p2P [0,1]).map fun m=>jp m 20001).sum)=true:=by kernel_rfl
theorem zq8:(zZ p1P [0,1]).length=2:=by kernel_rfl
theorem zq7:(zZ p2P [0,1]).length=6:=by kernel_rfl
theorem zq6:(zZ p3P [0,1]).length=2:=by kernel_rfl
theorem zq5:(zZ p4P [0]).length=1:=by kernel_rfl
abbrev xA:ExD:=(zZ p1P [0,1]).getD 0 (ex0 0)
abbrev yA:ExD:=(zZ p1P [0,1]).getD 1 (ex0 0)
theorem zrT:(decide (xA.ev.length=3)&&(decide (yA.ev.length=3)&&(decide ((evA xA 2).v=0)&&(decide ((evA yA 2).v=1)&&(decide (xA.rf.to 0=4)&&(decide (yA.rf.to 1=4)&&(decide (xA.co.to 0=2)&&(qM yA.co xA.co&&(decide (xA.mem 0=1)&&(decide (yA.regs 8=1)&&(zbu xA&&(zrh xA&&(!jV xA yA)))))))))))))=true:=by kernel_rfl
theorem znt {X W:Wd} (L:List (List InsD×Nat)) (hL:∀ p∈L,X.heap[p.2]?=some (.cells (p.1.flatMap zH.enc).toArray 41 (0,0))) (hW:W=X.alloc (.cells (L.map fun p=>Value.slice (some ⟨p.2,0,none⟩) p.1.length p.1.length).toArray 42)):ThrsW W.heap.size W (some ⟨X.heap.size,0,none⟩) (L.map (·.1)):=by
 have f:W.heap[X.heap.size]?=some (.cells (L.map fun p=>Value.slice (some ⟨p.2,0,none⟩) p.1.length p.1.length).toArray 42 (0,0)):=by rw [hW];exact zz X _
 refine⟨L.map fun p=>(p.1,some ⟨p.2,0,none⟩,p.1.length),by rw [UJ];rfl,.inr ⟨X.heap.size,0,rfl,hlt f,?_⟩,fun x hx=>?_⟩
 ·have e:(L.map fun p=>((p.1,some ⟨p.2,0,none⟩,p.1.length):zla)).flatMap zns.enc=L.map fun p=>Value.slice (some ⟨p.2,0,none⟩) p.1.length p.1.length:=by
   rw [Qr];clear hL hW f
   induction L with
   | nil=>rfl
   | cons a L ih=>rw [KV,ih];rfl
  rw [e];exact za f
 ·obtain⟨y,hy,rfl⟩:=UL.1 hx;have g:W.heap[y.2]?=some (.cells (y.1.flatMap zH.enc).toArray 41 (0,0)):=by rw [hW];exact qG _ (hL y hy)
  exact⟨.inr ⟨y.2,0,rfl,hlt g,za g⟩,fun _ a ha=>by
   obtain rfl:(⟨y.2,0,none⟩:Addr)=a:=Uh ha;exact hlt g⟩
abbrev zdN (X:Wd) (O:Nat) (l:List InsD):Prop:=X.heap[O]?=some (.cells (l.flatMap zH.enc).toArray 41 (0,0))
structure CanB (X:Wd) (l:List ExD) (q:OA) (xs:List zcq):Prop where
 e:xs.map (·.1)=l
 r:SlR exE X q xs
 v:∀ x∈xs,SlR evE X x.2.1 x.1.ev
theorem CanB.below {X Y:Wd} {l:List ExD} {q:OA} {xs:List zcq} (h:CanB X l q xs) (hb:Bw X Y):CanB Y l q xs:=⟨h.e,h.r.below hb,fun x hx=>(h.v x hx).below hb⟩
theorem CanB.len {X:Wd} {l:List ExD} {q:OA} {xs:List zcq} (h:CanB X l q xs):xs.length=l.length:=by rw [<- h.e,QQ]
theorem zaa {X W:Wd} {P Q:Nat} {x:ExD} {qx:OA} {cx:Nat} {cs:Array Value} (hb:Bw X W) (fP:W.heap[P]?=some (.cells cs 55 (0,0))) (hcs:cs.size=333) {o:Obj} (fQ:W.heap[Q]?=some o) (hPQ:P≠Q) (hP:X.heap.size<=P) {K:Wd->Prop} (k:∀ Y,ExH Y P x qx cx->Y.heap[Q]?=some o->Bw X Y->K Y) :
  SatR ((storeVar 55 ⟨P,0,none⟩ (.agg (exC x qx cx).toArray)).run PG W) fun _ w'=>K w' :=
 zJ (v := .agg (exC x qx cx).toArray) k55 fP (zy _ _ _) hcs (zak _ _ _) (k _ (zA fP) ((zr (fun h=>hPQ h.symm)).trans fQ) (zC hb hP _))
theorem znI {X:Wd} {b c:Nat} {x:ExD} {q:OA} (fx:ExH X b x q c) {i:Nat} (hi:i<48):X.cell? ⟨b,0+50+1+i*1,none⟩=some (s64 (x.rf.to i)):=by
 obtain⟨A,T,hA,hE⟩:=zkU x q c;have hR:RelAt X b 50 55 A T x.rf:=⟨hA,by rw [<- hE];exact fx⟩;exact hR.cell hi
theorem zqS {X:Wd} {b c:Nat} {x:ExD} {q:OA} (fx:ExH X b x q c) {i:Nat} (hi:i<48):X.cell? ⟨b,0+99+1+i*1,none⟩=some (s64 (x.co.to i)):=by
 obtain⟨A,T,hA,hE⟩:=zit x q c;have hR:RelAt X b 99 55 A T x.co:=⟨hA,by rw [<- hE];exact fx⟩;exact hR.cell hi
theorem zpW {X:Wd} {b:Nat} {x:ExD} {q:OA} {c i j:Nat} (fx:zx X ⟨b,0,none⟩ (exC x q c)) (hi:i*8+j<32):X.cell? ⟨b,0+295+i*8+j*1,none⟩=some (u8 (x.regs (i*8+j))):=by
 obtain⟨A,T,hA,hE⟩:=zlT x q c [];have h2:(exC x q c)[295+(i*8+j)]?=some (u8 (x.regs (i*8+j))):=by
  have h:=hE x.regs;rw [QM] at h;rw [h,jm hA,Jr (by rw [zw];exact hi)];unfold seg;rw [KX,Kk hi];rfl
 have h4:=zc fx h2;rw [show 0+(295+(i*8+j))=0+295+i*8+j*1 by omega] at h4;exact h4
abbrev zEx:Obj := .cells zkc.toArray 55
theorem zsg {w:Wd} (hG:GlobE w):CB 10 #[] w (.bool true):=by
 refine qX 183 [] (.s .p (.c .p (.c .p (.c .p (.c .p (.c .p (.c .p (.c .p (.c .p (.c .p .p)))))))))) Tryz.func10 ?_;refine⟨Nat,fun O=>⟨[(1,.slice (some ⟨O,0,none⟩) 1 1)],[]⟩,fun O X=>zdN X O [stI 0 1 0]/\Bw w X,?_,?_⟩
 ·refine⟨[.bool false,u8 1],by kernel_rfl,?_⟩;refine⟨zH.enc (stI 0 1 0),by kernel_rfl,?_⟩;exact⟨⟨by decide,by decide,rfl⟩,zH.enc (stI 0 1 0),rfl,w.heap.size,(cvE rfl rfl),zz w _,(zba w _)⟩
 rintro O X ⟨fO,hbX⟩;refine⟨Nat,fun D=>⟨[(1,.slice (some ⟨O,0,none⟩) 1 1),(2,.slice (some ⟨D,0,none⟩) 1 1)],[]⟩,fun D Y=>zdN Y O [stI 0 1 0]/\zdN Y D [ldI 0 0 0]/\Bw w Y,?_,?_⟩
 ·refine⟨zH.enc (ldI 0 0 0),by kernel_rfl,?_⟩;exact⟨⟨by decide,by decide,rfl⟩,zH.enc (ldI 0 0 0),rfl,X.heap.size,(cvE rfl rfl),qG _ fO,zz X _,hbX.alloc hbX.size _⟩
 clear fO hbX;clear X;rintro D X ⟨fO,fD,hbX⟩;refine⟨OA×List zcq×Nat,fun s=>⟨[(1,.slice (some ⟨O,0,none⟩) 1 1),(2,.slice (some ⟨D,0,none⟩) 1 1),(3,.slice s.1 s.2.1.length s.2.2),(4,i64 0)],[]⟩,fun s Z=>CanB Z (zZ p1P [0,1]) s.1 s.2.1/\zdN Z O [stI 0 1 0]/\zdN Z D [ldI 0 0 0]/\Bw w Z,?_,?_⟩
 ·obtain⟨S,hS⟩:=nm (X);have dXS:Bw X S:=by rw [hS];exact Gd _ _
  have hbS:Bw w S:=by rw [hS];exact hbX
  rw [<- hS];obtain⟨W1,hW1⟩:=nm (S.alloc (.cells #[.slice (some ⟨O,0,none⟩) 1 1,.slice (some ⟨D,0,none⟩) 1 1] 42));have b1:Bw S W1:=by rw [hW1];exact (zba _ _)
  refine⟨⟨by decide,by decide,rfl⟩,[.slice (some ⟨O,0,none⟩) 1 1,.slice (some ⟨D,0,none⟩) 1 1],rfl,?_⟩;have hW1b:S.alloc (.cells [.slice (some ⟨O,0,none⟩) 1 1,.slice (some ⟨D,0,none⟩) 1 1].toArray 42)=W1:=hW1.symm;rw [hW1b];have hT:ThrsW W1.heap.size W1 (some ⟨S.heap.size,0,none⟩) [[stI 0 1 0],[ldI 0 0 0]]:=znt [([stI 0 1 0],O),([ldI 0 0 0],D)] (fun p hp=>by
   simp only [UE,Qy,Gn] at hp;rcases hp with rfl | rfl
   ·exact zb dXS fO
   ·exact zb dXS fD) hW1
  have h9:=zd2 (ct:=2) hT (by decide) (fun l hl=>by
   simp only [UE,Qy,Gn] at hl;rcases hl with rfl | rfl <;> decide)
  refine cmo h9 ?_;rintro e U ⟨⟨vs,rfl,hP⟩,hbU⟩;have b2:=zst b1 hbU;have bU:=zst hbS b2;refine cmo (zew (UY _) hP (hG.below bU) (by decide) zsC) ?_;rintro e V ⟨⟨xs,qq,cc,rfl,h1,h2,h3⟩,hbV⟩;have bXV:=dXS.trans (((zst b2 hbV)).mono dXS.size);exact⟨(qq,xs,cc),(cvE rfl rfl),⟨h1,h2.row,fun x hx=>(h3 x hx).row⟩,zb (bXV) fO,zb (bXV) fD,(zst hbX bXV)⟩
 clear fO fD hbX;clear X;rintro⟨q3,xs3,c3⟩ X ⟨cb3,fO,fD,hbX⟩;dsimp only at cb3 ⊢;refine⟨OA×List zcq×Nat,fun s=>⟨[(1,.slice (some ⟨O,0,none⟩) 1 1),(2,.slice (some ⟨D,0,none⟩) 1 1),(3,.slice q3 xs3.length c3),(4,i64 0),(5,.slice s.1 s.2.1.length s.2.2),(6,i64 0)],[]⟩,fun s Z=>CanB Z (zZ p2P [0,1]) s.1 s.2.1/\CanB Z (zZ p1P [0,1]) q3 xs3/\zdN Z O [stI 0 1 0]/\zdN Z D [ldI 0 0 0]/\Bw w Z,?_,?_⟩
 ·obtain⟨S,hS⟩:=nm (X);have dXS:Bw X S:=by rw [hS];exact Gd _ _
  have hbS:Bw w S:=by rw [hS];exact hbX
  rw [<- hS];obtain⟨W1,hW1⟩:=nm (S.alloc (.cells #[.slice (some ⟨O,0,none⟩) 1 1,.slice (some ⟨O,0,none⟩) 1 1,.slice (some ⟨D,0,none⟩) 1 1] 42));have b1:Bw S W1:=by rw [hW1];exact (zba _ _)
  refine⟨⟨by decide,by decide,rfl⟩,[.slice (some ⟨O,0,none⟩) 1 1,.slice (some ⟨O,0,none⟩) 1 1,.slice (some ⟨D,0,none⟩) 1 1],rfl,?_⟩;have hW1b:S.alloc (.cells [.slice (some ⟨O,0,none⟩) 1 1,.slice (some ⟨O,0,none⟩) 1 1,.slice (some ⟨D,0,none⟩) 1 1].toArray 42)=W1:=hW1.symm;rw [hW1b];have hT:ThrsW W1.heap.size W1 (some ⟨S.heap.size,0,none⟩) [[stI 0 1 0],[stI 0 1 0],[ldI 0 0 0]]:=znt [([stI 0 1 0],O),([stI 0 1 0],O),([ldI 0 0 0],D)] (fun p hp=>by
   simp only [UE,Qy,Gn] at hp;rcases hp with rfl | rfl | rfl
   ·exact zb dXS fO
   ·exact zb dXS fO
   ·exact zb dXS fD) hW1
  have h9:=zd2 (ct:=3) hT (by decide) (fun l hl=>by
   simp only [UE,Qy,Gn] at hl;rcases hl with rfl | rfl | rfl <;> decide)
  refine cmo h9 ?_;rintro e U ⟨⟨vs,rfl,hP⟩,hbU⟩;have b2:=zst b1 hbU;have bU:=zst hbS b2;refine cmo (zew (UY _) hP (hG.below bU) (by decide) zsa) ?_;rintro e V ⟨⟨xs,qq,cc,rfl,h1,h2,h3⟩,hbV⟩;have bXV:=dXS.trans (((zst b2 hbV)).mono dXS.size);exact⟨(qq,xs,cc),(cvE rfl rfl),⟨h1,h2.row,fun x hx=>(h3 x hx).row⟩,cb3.below (bXV),zb (bXV) fO,zb (bXV) fD,(zst hbX bXV)⟩
 clear cb3 fO fD hbX;clear X;rintro⟨q5,xs5,c5⟩ X ⟨cb5,cb3,fO,fD,hbX⟩;dsimp only at cb5 ⊢;refine⟨OA×List zcq×Nat,fun s=>⟨[(1,.slice (some ⟨O,0,none⟩) 1 1),(2,.slice (some ⟨D,0,none⟩) 1 1),(3,.slice q3 xs3.length c3),(4,i64 0),(5,.slice q5 xs5.length c5),(6,i64 0),(7,.slice s.1 s.2.1.length s.2.2),(8,i64 0)],[]⟩,fun s Z=>CanB Z (zZ p3P [0,1]) s.1 s.2.1/\CanB Z (zZ p2P [0,1]) q5 xs5/\CanB Z (zZ p1P [0,1]) q3 xs3/\zdN Z O [stI 0 1 0]/\zdN Z D [ldI 0 0 0]/\Bw w Z,?_,?_⟩
 ·obtain⟨S0,hS0⟩:=nm (X.drew);have d0:Bw X S0:=by rw [hS0];exact (Gd _ _).drew
  refine DrawE.ord [] [0,1,2,3,4,5,6,7,8,9,10,11,12,13,14] (by kernel_rfl) ?_;rw [<- hS0];have gO:=zb d0 fO;have gD:=zb d0 fD;refine⟨0,rfl,by decide,?_⟩;refine⟨zH.enc (ldI 0 0 0),rfl,za gD,hlt gD,0,rfl,by decide,?_⟩;refine⟨zH.enc (stI 0 1 0),rfl,za gO,hlt gO,?_⟩;obtain⟨S,hS⟩:=nm (S0.alloc (.cells (zH.enc (ldI 0 0 0)++zH.enc (stI 0 1 0)).toArray 41));have d1:Bw S0 S:=by rw [hS];exact (zba _ _)
  refine⟨⟨by decide,by decide,rfl⟩,zH.enc (ldI 0 0 0)++zH.enc (stI 0 1 0),rfl,?_⟩;have hSb:S0.alloc (.cells (zH.enc (ldI 0 0 0)++zH.enc (stI 0 1 0)).toArray 41)=S:=hS.symm;rw [hSb];refine⟨d1,?_⟩;have fN:zdN S S0.heap.size [ldI 0 0 0,stI 0 1 0]:=by rw [hS];exact zz S0 _
  have dXS:Bw X S:=zst d0 d1;have hbS:Bw w S:=zst hbX dXS;obtain⟨W1,hW1⟩:=nm (S.alloc (.cells #[.slice (some ⟨S0.heap.size,0,none⟩) 2 2] 42));have b1:Bw S W1:=by rw [hW1];exact (zba _ _)
  refine⟨⟨by decide,by decide,rfl⟩,[.slice (some ⟨S0.heap.size,0,none⟩) 2 2],rfl,?_⟩;have hW1b:S.alloc (.cells [.slice (some ⟨S0.heap.size,0,none⟩) 2 2].toArray 42)=W1:=hW1.symm;rw [hW1b];refine⟨b1,?_⟩;have hT:ThrsW W1.heap.size W1 (some ⟨S.heap.size,0,none⟩) [[ldI 0 0 0,stI 0 1 0]]:=znt [([ldI 0 0 0,stI 0 1 0],S0.heap.size)] (fun p hp=>by
   simp only [UE,Qy,Gn] at hp;rcases hp with rfl
   ·exact fN) hW1
  have h9:=zd2 (ct:=1) hT (by decide) (fun l hl=>by
   simp only [UE,Qy,Gn] at hl;rcases hl with rfl <;> decide)
  refine cmo h9 ?_;rintro e U ⟨⟨vs,rfl,hP⟩,hbU⟩;refine⟨hbU,?_⟩;have b2:=zst b1 hbU;have bU:=zst hbS b2;refine cmo (zew (UY _) hP (hG.below bU) (by decide) zsB) ?_;rintro e V ⟨⟨xs,qq,cc,rfl,h1,h2,h3⟩,hbV⟩;refine⟨hbV,?_⟩;have bXV:=dXS.trans (((zst b2 hbV)).mono dXS.size);exact⟨(qq,xs,cc),(cvE rfl rfl),⟨h1,h2.row,fun x hx=>(h3 x hx).row⟩,cb5.below (bXV),cb3.below (bXV),zb (bXV) fO,zb (bXV) fD,(zst hbX bXV)⟩
 clear cb5 cb3 fO fD hbX;clear X;rintro⟨q7,xs7,c7⟩ X ⟨cb7,cb5,cb3,fO,fD,hbX⟩;dsimp only at cb7 ⊢;refine⟨OA×List zcq×Nat,fun s=>⟨[(1,.slice (some ⟨O,0,none⟩) 1 1),(2,.slice (some ⟨D,0,none⟩) 1 1),(3,.slice q3 xs3.length c3),(4,i64 0),(5,.slice q5 xs5.length c5),(6,i64 0),(7,.slice q7 xs7.length c7),(8,i64 0),(9,.slice s.1 s.2.1.length s.2.2),(10,i64 0)],[]⟩,fun s Z=>CanB Z (zZ p4P [0]) s.1 s.2.1/\CanB Z (zZ p3P [0,1]) q7 xs7/\CanB Z (zZ p2P [0,1]) q5 xs5/\CanB Z (zZ p1P [0,1]) q3 xs3/\zdN Z O [stI 0 1 0]/\zdN Z D [ldI 0 0 0]/\Bw w Z,?_,?_⟩
 ·obtain⟨S,hS⟩:=nm (X);have fN0:=zz X (.cells (zH.enc feI).toArray 41);clear hS;clear S;obtain⟨S,hS⟩:=nm (X.alloc (.cells (zH.enc feI).toArray 41));refine⟨zH.enc feI,by kernel_rfl,?_⟩;refine⟨⟨by decide,by decide,rfl⟩,zH.enc feI,rfl,?_⟩;have hSb:X.alloc (.cells (zH.enc feI).toArray 41)=S:=hS.symm;rw [hSb];have fN:zdN S X.heap.size [feI]:=by rw [hS];exact fN0
  have dXS:Bw X S:=by rw [hS];exact (zba _ _)
  have hbS:Bw w S:=zst hbX dXS;obtain⟨W1,hW1⟩:=nm (S.alloc (.cells #[.slice (some ⟨X.heap.size,0,none⟩) 1 1] 42));have b1:Bw S W1:=by rw [hW1];exact (zba _ _)
  refine⟨⟨by decide,by decide,rfl⟩,[.slice (some ⟨X.heap.size,0,none⟩) 1 1],rfl,?_⟩;have hW1b:S.alloc (.cells [.slice (some ⟨X.heap.size,0,none⟩) 1 1].toArray 42)=W1:=hW1.symm;rw [hW1b];have hT:ThrsW W1.heap.size W1 (some ⟨S.heap.size,0,none⟩) [[feI]]:=znt [([feI],X.heap.size)] (fun p hp=>by
   simp only [UE,Qy,Gn] at hp;rcases hp with rfl
   ·exact fN) hW1
  have h9:=zd2 (ct:=1) hT (by decide) (fun l hl=>by
   simp only [UE,Qy,Gn] at hl;rcases hl with rfl <;> decide)
  refine cmo h9 ?_;rintro e U ⟨⟨vs,rfl,hP⟩,hbU⟩;have b2:=zst b1 hbU;have bU:=zst hbS b2;refine cmo (zew (UY _) hP (hG.below bU) (by decide) zsA) ?_;rintro e V ⟨⟨xs,qq,cc,rfl,h1,h2,h3⟩,hbV⟩;have bXV:=dXS.trans (((zst b2 hbV)).mono dXS.size);exact⟨(qq,xs,cc),(cvE rfl rfl),⟨h1,h2.row,fun x hx=>(h3 x hx).row⟩,cb7.below (bXV),cb5.below (bXV),cb3.below (bXV),zb (bXV) fO,zb (bXV) fD,(zst hbX bXV)⟩
 clear cb7 cb5 cb3 fO fD hbX;clear X;rintro⟨q9,xs9,c9⟩ X ⟨cb9,cb7,cb5,cb3,fO,fD,hbX⟩;dsimp only at cb9 ⊢;refine⟨Unit,fun _=>⟨[(1,.slice (some ⟨O,0,none⟩) 1 1),(2,.slice (some ⟨D,0,none⟩) 1 1),(3,.slice q3 xs3.length c3),(4,i64 0),(5,.slice q5 xs5.length c5),(6,i64 0),(7,.slice q7 xs7.length c7),(8,i64 0),(9,.slice q9 xs9.length c9),(10,i64 0),(12,i64 5)],[]⟩,fun _ Z=>CanB Z (zZ p4P [0]) q9 xs9/\CanB Z (zZ p3P [0,1]) q7 xs7/\CanB Z (zZ p2P [0,1]) q5 xs5/\CanB Z (zZ p1P [0,1]) q3 xs3/\zdN Z O [stI 0 1 0]/\zdN Z D [ldI 0 0 0]/\Bw w Z,?_,?_⟩
 ·obtain⟨S,hS⟩:=nm (X);have dXS:Bw X S:=by rw [hS];exact Gd _ _
  have hbS:Bw w S:=by rw [hS];exact hbX
  rw [<- hS];obtain⟨W1,hW1⟩:=nm (S.alloc (.cells #[.slice (some ⟨O,0,none⟩) 1 1,.slice (some ⟨O,0,none⟩) 1 1,.slice (some ⟨D,0,none⟩) 1 1] 42));have b1:Bw S W1:=by rw [hW1];exact (zba _ _)
  refine⟨⟨by decide,by decide,rfl⟩,[.slice (some ⟨O,0,none⟩) 1 1,.slice (some ⟨O,0,none⟩) 1 1,.slice (some ⟨D,0,none⟩) 1 1],rfl,?_⟩;have hW1b:S.alloc (.cells [.slice (some ⟨O,0,none⟩) 1 1,.slice (some ⟨O,0,none⟩) 1 1,.slice (some ⟨D,0,none⟩) 1 1].toArray 42)=W1:=hW1.symm;rw [hW1b];have hT:ThrsW W1.heap.size W1 (some ⟨S.heap.size,0,none⟩) [[stI 0 1 0],[stI 0 1 0],[ldI 0 0 0]]:=znt [([stI 0 1 0],O),([stI 0 1 0],O),([ldI 0 0 0],D)] (fun p hp=>by
   simp only [UE,Qy,Gn] at hp;rcases hp with rfl | rfl | rfl
   ·exact zb dXS fO
   ·exact zb dXS fO
   ·exact zb dXS fD) hW1
  have h9:=zd2 (ct:=3) hT (by decide) (fun l hl=>by
   simp only [UE,Qy,Gn] at hl;rcases hl with rfl | rfl | rfl <;> decide)
  refine cmo h9 ?_;rintro e U ⟨⟨vs,rfl,hP⟩,hbU⟩;have b2:=zst b1 hbU;have bU:=zst hbS b2;refine cmo (zpg (UY _) hP (hG.below bU) (by decide) zsa zpv) ?_;rintro e V ⟨rfl,hbV⟩;have bXV:=dXS.trans (((zst b2 hbV)).mono dXS.size);exact⟨(),(cvE rfl rfl),cb9.below (bXV),cb7.below (bXV),cb5.below (bXV),cb3.below (bXV),zb (bXV) fO,zb (bXV) fD,(zst hbX bXV)⟩
 clear cb9 cb7 cb5 cb3 fO fD hbX;clear X;rintro _ X ⟨cb9,cb7,cb5,cb3,fO,fD,hbX⟩;have l3:xs3.length=2:=cb3.len.trans zq8;have l5:xs5.length=6:=cb5.len.trans zq7;have l7:xs7.length=2:=cb7.len.trans zq6;have l9:xs9.length=1:=cb9.len.trans zq5;refine⟨Unit,fun _=>⟨[(3,.slice q3 xs3.length c3)],[]⟩,fun _ Z=>X=Z,?_,?_⟩
 ·exact⟨0,rfl,0,rfl,0,rfl,brN (by decide) (brN (by decide) (brN (by rw [l3];rfl) (brN (by rw [l5];rfl) (brN (by rw [l7];rfl) (brN (by rw [l9];rfl) ⟨(),(cvE rfl rfl),rfl⟩)))))⟩
 rintro _ _ rfl;clear cb5 cb7 cb9 fO fD l5 l7 l9;have hxs:∀ i,i<2->∃ x,xs3[i]?=some x/\x.1=(zZ p1P [0,1]).getD i (ex0 0):=fun i hi=>by
  have hl:i<xs3.length:=by omega
  refine⟨xs3[i],gE hl,?_⟩;rw [<- cb3.e,gDe,KX,gE hl];rfl
 obtain⟨x,hx0,hx1⟩:=hxs 0 (by decide);obtain⟨y,hy0,hy1⟩:=hxs 1 (by decide);obtain⟨bq,oq,hqq,hbq,hat⟩:=cb3.r.at (by omega:0<xs3.length);have hgx:xs3[0]'(by omega)=x:=Uh ((gE (by omega)).symm.trans hx0);have hgy:xs3[1]'(by omega)=y:=Uh ((gE (by omega)).symm.trans hy0);have atx:zx X ⟨bq,oq+0*333,none⟩ (exC x.1 x.2.1 x.2.2):=by have:=hat 0 (by omega);rw [hgx] at this;exact this
 have aty:zx X ⟨bq,oq+1*333,none⟩ (exC y.1 y.2.1 y.2.2):=by have:=hat 1 (by omega);rw [hgy] at this;exact this
 have vx:=cb3.v x (by rw [<- hgx];exact gM _);have vy:=cb3.v y (by rw [<- hgy];exact gM _);subst hqq;clear hat hgx hgy hx0 hy0 hxs;refine⟨Nat×Nat,fun s=>⟨[(13,At0 s.1),(14,At0 s.2)],[]⟩,fun s Z=>ExH Z s.1 x.1 x.2.1 x.2.2/\ExH Z s.2 y.1 y.2.1 y.2.2/\Bw X Z,?_,?_⟩
 ·have b0:Bw X X.drew:=(Gd _ _).drew;have y0:=b0.size;refine DrawE.treeQ [8,9] (.op 0 (.op 1 (.op 2 (.op 3 (.op 4 (.alt (.op 6 (.alt (.op 7 (.alt (.op 8 (.op 5 (.op 9 (.nil)))) (.op 5 (.op 8 (.op 9 (.nil)))))) (.op 5 (.op 7 (.op 8 (.op 9 (.nil))))))) (.alt (.op 7 (.alt (.op 6 (.alt (.op 8 (.op 5 (.op 9 (.nil)))) (.op 5 (.op 8 (.op 9 (.nil)))))) (.op 5 (.op 6 (.op 8 (.op 9 (.nil))))))) (.op 5 (.alt (.op 6 (.op 7 (.op 8 (.op 9 (.nil))))) (.op 7 (.op 6 (.op 8 (.op 9 (.nil)))))))))))))) (by kernel_rfl) ⟨0,rfl,by omega,?_⟩;refine⟨exC x.1 x.2.1 x.2.2,zy _ _ _,zm b0 atx,nL hbq b0.size,1,rfl,by omega,?_⟩;refine Gi ?_ (Gi ?_ ?_)
  ·refine⟨(zba _ _),?_⟩;have b1:=b0.alloc b0.size zEx;have z1:=wz X.drew zEx;refine Gi ?_ ?_
   ·refine⟨(zba _ _),?_⟩;have b2:=b1.alloc b1.size zEx;have z2:=wz (X.drew.alloc zEx) zEx;refine Gi ?_ ?_
    ·exact zaa (P:=X.drew.heap.size) (Q:=(X.drew.alloc zEx).heap.size) b2 (qG zEx (zz X.drew zEx)) zS (zz (X.drew.alloc zEx) zEx) (by omega) (by omega) fun V3 p3 q3 b3=>⟨exC y.1 y.2.1 y.2.2,zy _ _ _,zm b3 aty,nL hbq b3.size,zaa (P:=(X.drew.alloc zEx).heap.size) (Q:=X.drew.heap.size) b3 (q3) zS (p3) (by omega) (by omega) fun V5 p5 q5 b5=>⟨(X.drew.heap.size,(X.drew.alloc zEx).heap.size),(cvE rfl rfl),q5,p5,b5⟩⟩
    ·exact⟨exC y.1 y.2.1 y.2.2,zy _ _ _,zm b2 aty,nL hbq b2.size,zaa (P:=X.drew.heap.size) (Q:=(X.drew.alloc zEx).heap.size) b2 (qG zEx (zz X.drew zEx)) zS (zz (X.drew.alloc zEx) zEx) (by omega) (by omega) fun V7 p7 q7 b7=>zaa (P:=(X.drew.alloc zEx).heap.size) (Q:=X.drew.heap.size) b7 (q7) zS (p7) (by omega) (by omega) fun V8 p8 q8 b8=>⟨(X.drew.heap.size,(X.drew.alloc zEx).heap.size),(cvE rfl rfl),q8,p8,b8⟩⟩
   ·refine⟨exC y.1 y.2.1 y.2.2,zy _ _ _,zm b1 aty,nL hbq b1.size,(zba _ _),?_⟩;have b10:=b1.alloc b1.size zEx;have z10:=wz (X.drew.alloc zEx) zEx;exact zaa (P:=X.drew.heap.size) (Q:=(X.drew.alloc zEx).heap.size) b10 (qG zEx (zz X.drew zEx)) zS (zz (X.drew.alloc zEx) zEx) (by omega) (by omega) fun V11 p11 q11 b11=>zaa (P:=(X.drew.alloc zEx).heap.size) (Q:=X.drew.heap.size) b11 (q11) zS (p11) (by omega) (by omega) fun V12 p12 q12 b12=>⟨(X.drew.heap.size,(X.drew.alloc zEx).heap.size),(cvE rfl rfl),q12,p12,b12⟩
  ·refine⟨(zba _ _),?_⟩;have b13:=b0.alloc b0.size zEx;have z13:=wz X.drew zEx;refine Gi ?_ ?_
   ·refine⟨(zba _ _),?_⟩;have b14:=b13.alloc b13.size zEx;have z14:=wz (X.drew.alloc zEx) zEx;refine Gi ?_ ?_
    ·exact zaa (P:=(X.drew.alloc zEx).heap.size) (Q:=X.drew.heap.size) b14 (zz (X.drew.alloc zEx) zEx) zS (qG zEx (zz X.drew zEx)) (by omega) (by omega) fun V15 p15 q15 b15=>⟨exC y.1 y.2.1 y.2.2,zy _ _ _,zm b15 aty,nL hbq b15.size,zaa (P:=X.drew.heap.size) (Q:=(X.drew.alloc zEx).heap.size) b15 (q15) zS (p15) (by omega) (by omega) fun V17 p17 q17 b17=>⟨((X.drew.alloc zEx).heap.size,X.drew.heap.size),(cvE rfl rfl),q17,p17,b17⟩⟩
    ·exact⟨exC y.1 y.2.1 y.2.2,zy _ _ _,zm b14 aty,nL hbq b14.size,zaa (P:=(X.drew.alloc zEx).heap.size) (Q:=X.drew.heap.size) b14 (zz (X.drew.alloc zEx) zEx) zS (qG zEx (zz X.drew zEx)) (by omega) (by omega) fun V19 p19 q19 b19=>zaa (P:=X.drew.heap.size) (Q:=(X.drew.alloc zEx).heap.size) b19 (q19) zS (p19) (by omega) (by omega) fun V20 p20 q20 b20=>⟨((X.drew.alloc zEx).heap.size,X.drew.heap.size),(cvE rfl rfl),q20,p20,b20⟩⟩
   ·refine⟨exC y.1 y.2.1 y.2.2,zy _ _ _,zm b13 aty,nL hbq b13.size,(zba _ _),?_⟩;have b22:=b13.alloc b13.size zEx;have z22:=wz (X.drew.alloc zEx) zEx;exact zaa (P:=(X.drew.alloc zEx).heap.size) (Q:=X.drew.heap.size) b22 (zz (X.drew.alloc zEx) zEx) zS (qG zEx (zz X.drew zEx)) (by omega) (by omega) fun V23 p23 q23 b23=>zaa (P:=X.drew.heap.size) (Q:=(X.drew.alloc zEx).heap.size) b23 (q23) zS (p23) (by omega) (by omega) fun V24 p24 q24 b24=>⟨((X.drew.alloc zEx).heap.size,X.drew.heap.size),(cvE rfl rfl),q24,p24,b24⟩
  ·refine⟨exC y.1 y.2.1 y.2.2,zy _ _ _,zm b0 aty,nL hbq b0.size,Gi ?_ ?_⟩
   ·refine⟨(zba _ _),?_⟩;have b26:=b0.alloc b0.size zEx;have z26:=wz X.drew zEx;refine⟨(zba _ _),?_⟩;have b27:=b26.alloc b26.size zEx;have z27:=wz (X.drew.alloc zEx) zEx;exact zaa (P:=X.drew.heap.size) (Q:=(X.drew.alloc zEx).heap.size) b27 (qG zEx (zz X.drew zEx)) zS (zz (X.drew.alloc zEx) zEx) (by omega) (by omega) fun V28 p28 q28 b28=>zaa (P:=(X.drew.alloc zEx).heap.size) (Q:=X.drew.heap.size) b28 (q28) zS (p28) (by omega) (by omega) fun V29 p29 q29 b29=>⟨(X.drew.heap.size,(X.drew.alloc zEx).heap.size),(cvE rfl rfl),q29,p29,b29⟩
   ·refine⟨(zba _ _),?_⟩;have b30:=b0.alloc b0.size zEx;have z30:=wz X.drew zEx;refine⟨(zba _ _),?_⟩;have b31:=b30.alloc b30.size zEx;have z31:=wz (X.drew.alloc zEx) zEx;exact zaa (P:=(X.drew.alloc zEx).heap.size) (Q:=X.drew.heap.size) b31 (zz (X.drew.alloc zEx) zEx) zS (qG zEx (zz X.drew zEx)) (by omega) (by omega) fun V32 p32 q32 b32=>zaa (P:=X.drew.heap.size) (Q:=(X.drew.alloc zEx).heap.size) b32 (q32) zS (p32) (by omega) (by omega) fun V33 p33 q33 b33=>⟨((X.drew.alloc zEx).heap.size,X.drew.heap.size),(cvE rfl rfl),q33,p33,b33⟩
 rintro⟨P,Q⟩ Y ⟨fX,fY,hbY⟩;dsimp only at fX fY ⊢;replace vx:=vx.below hbY;replace vy:=vy.below hbY;replace hbX:=zst hbX hbY;clear hbY atx aty cb3 l3 hbq;clear X;obtain⟨x,qx,cx⟩:=x;obtain⟨y,qy,cy⟩:=y;dsimp only at hx1 hy1 vx vy fX fY;have hsay:=zrT;have e1:xA=x:=hx1.symm;have e2:yA=y:=hy1.symm;rw [e1,e2] at hsay;clear hx1 hy1 e1 e2;simp only [bAT,dE,KM] at hsay;obtain⟨s1,s2,s3,s4,s5,s6,s7,s8,s9,s10,s11,s12,s13⟩:=hsay
 rename Wd=>X
 have hvx:=zpT s12 vx;have sxx:=zmq x;obtain⟨bx,ox,hqx,hbx,hatx⟩:=zcr vx (by omega);obtain⟨by_,oy,hqy,hby,haty⟩:=zcr vy (by omega);have atx:=hatx 2 (by omega);have aty:=haty 2 (by omega);subst hqx hqy;have hbL:Bw X X:=Gd _ _;refine⟨_,jJ (za fX),brE (Uu (by rw [s1];rfl)) ⟨_,jJ (za fX),2,rfl,by omega,?_⟩⟩;refine⟨u8 (evA x 2).v,by have:=zc atx (i:=3) (v:=u8 (evA x 2).v) rfl;exact this,brE (Uu (by rw [s3];rfl)) ⟨_,jJ (za fY),2,rfl,by omega,?_⟩⟩;refine⟨u8 (evA y 2).v,by have:=zc aty (i:=3) (v:=u8 (evA y 2).v) rfl;exact this,brE (Uu (by rw [s4];rfl)) ⟨0,rfl,by decide,?_⟩⟩;refine⟨s64 (x.rf.to 0),znI fX (by decide),brE (Uu (by rw [s5];rfl)) ⟨1,rfl,by decide,?_⟩⟩;refine⟨s64 (y.rf.to 1),znI fY (by decide),brE (Uu (by rw [s6];rfl)) ⟨0,rfl,by decide,?_⟩⟩;refine⟨s64 (x.co.to 0),zqS fX (by decide),brE (Uu (by rw [s7];rfl)) ⟨_,zk _,zkB fY,hlt fY,_,zk _,zkB fX,hlt fX,_,fun w=>zbh _ _ _ _ w,brE (s8) ⟨0,rfl,by decide,?_⟩⟩⟩;refine⟨u8 (x.mem 0),zpX (za fX) (by decide),brE (Uu (by rw [s9];rfl)) ⟨1,rfl,by decide,?_⟩⟩;refine⟨0,rfl,by decide,?_⟩;refine⟨u8 (y.regs 8),zpW (za fY) (i:=1) (j:=0) (by decide),brE (Uu (by rw [s10];rfl)) ⟨_,zy _ _ _,za fX,hlt fX,cmo (zo4 (hvx.below hbL) (hG.t64.below hbX)) ?_⟩⟩;rintro e U ⟨rfl,hbU⟩;have fX:=zb hbU fX;have fY:=zb hbU fY;replace hbX:=zst hbX hbU;replace hbL:=zst hbL hbU;refine brE (s11) ⟨_,zy _ _ _,za fX,hlt fX,_,zy _ _ _,za fX,hlt fX,cmo (ziL (vx.below hbL) (vx.below hbL) (by omega)) ?_⟩;rintro e U ⟨rfl,hbU⟩;have fX:=zb hbU fX;have fY:=zb hbU fY;replace hbX:=zst hbX hbU;replace hbL:=zst hbL hbU;refine brE (sxx) ⟨_,zy _ _ _,za fX,hlt fX,_,zy _ _ _,za fY,hlt fY,cmo (ziL (vx.below hbL) (vy.below hbL) (by omega)) ?_⟩;rintro e U ⟨rfl,hbU⟩;have fX:=zb hbU fX;have fY:=zb hbU fY;replace hbX:=zst hbX hbU;replace hbL:=zst hbL hbU;exact⟨rb (by rw [s13];rfl),hbX⟩
section
variable {w:Wd}
theorem zrO {q:OA} {cap:Nat} {l:List InsD} (hl:SlR zH w q l) (hn:l.length<=1000000) :
  Calls PG 23 #[.slice q l.length cap] w fun e w'=>(∃ b:Bool,e = .returned (.bool b))/\Bw w w':=by
 refine qX 35 [.slice q l.length cap] (.s .p (.s .p (.c .p .p))) Tryz.func23 ?_;refine⟨Nat,fun n=>⟨[(0,.slice q l.length cap),(3,i64 (n:Nat))],[]⟩,fun n X=>Bw w X,?_,?_⟩
 ·refine⟨Nat×Nat,fun s=>⟨[(0,.slice q l.length cap),(3,i64 (s.2:Nat)),(6,.slice q l.length cap),(7,i64 l.length),(8,i64 (s.1:Nat))],[]⟩,fun s X=>(s.1<=l.length/\s.2<=s.1)/\Bw w X,fun s=>l.length-s.1,(0,0),
   (cvE rfl rfl),⟨⟨Gb _,UY _⟩,Gd _ _⟩,?_⟩
  rintro⟨k,n⟩ X ⟨⟨hk,hnk⟩,hbX⟩;dsimp only at hk hnk ⊢;refine biE (fun hc=>?_) fun hc=>?_
  ·have hc:(k:Int)<(l.length:Int):=dT hc;have hkl:k<l.length:=by omega
   obtain⟨bp,op,rfl,hlp,hat⟩:=hl.at hkl;refine⟨k,rfl,hkl,zH.enc l[k],zH.len _,zm hbX (hat k hkl),nL hlp hbX.size,zn (X:=X) (v := .agg (zH.enc l[k]).toArray) k41 (zH.len _) rfl (Qm.2 fun u hu=>zH.one _ u hu) fun Y hbY fY sY=>?_⟩;have fY:Y.heap[X.heap.size]?=some (.cells (zH.enc l[k]).toArray 41 (0,0)):=fY;have c0:Y.cell? ⟨X.heap.size,0+0,none⟩=some (u8 l[k].op):=zc (za fY) (i:=0) rfl;have hwY:=zst hbX hbY;have fin1:(k+1<=l.length/\n+1<=k+1)/\Bw w Y:=⟨⟨hkl,by omega⟩,hwY⟩;have fin0:(k+1<=l.length/\n<=k+1)/\Bw w Y:=⟨⟨hkl,by omega⟩,hwY⟩;have lt:l.length-(k+1)<l.length-k:=by omega
   refine⟨_,c0,biE (fun h1=>?_) fun h1=>?_⟩
   ·exact brT (nxI (by omega) (nxI (by omega) ⟨(k+1,n+1),(cvE rfl rfl),fin1,lt⟩))
   ·refine⟨_,c0,biE (fun h2=>?_) fun h2=>?_⟩
    ·refine⟨_,c0,biE (fun h3=>?_) fun h3=>?_⟩
     ·exact nxI (by omega) (nxI (by omega) ⟨(k+1,n+1),(cvE rfl rfl),fin1,lt⟩)
     ·exact nxI (by omega) ⟨(k+1,n),(cvE rfl rfl),fin0,lt⟩
    ·exact brF (nxI (by omega) ⟨(k+1,n),(cvE rfl rfl),fin0,lt⟩)
  ·exact⟨n,(cvE rfl rfl),hbX⟩
 rintro n X hbX;refine biE (fun h1=>?_) fun h1=>?_
 ·exact⟨⟨_,rfl⟩,hbX⟩
 ·exact⟨⟨_,rfl⟩,hbX⟩
end
section
variable {w:Wd} {B:Nat} {pc:List Value} {p:Prg}
theorem zrN (hB:B<=w.heap.size) (hP:PrgX B w pc p) :
  Calls PG 15 #[.agg pc.toArray] w fun e w'=>(∃ b:Bool,e = .returned (.bool b))/\Bw w w':=by
 refine qX 63 [.agg pc.toArray] (.c .p (.s .p (.s .p (.c .p .p)))) Tryz.func15 ?_;obtain⟨L,hL⟩:=nm (w.heap.size);have hpc:=hP.v.size;have hPl:=hP.v.len;obtain⟨q1,k1,q2,k2,q3,k3,q4,k4,hvs,_⟩:=hP.v.h;have hpc1:pc[1]?=some (.slice q1 p.locs.length k1):=by rw [hvs];rfl
 obtain⟨_,⟨p3,c3,h3,xs,hxs,zec,hxr⟩,_⟩:=hP;have hxl:xs.length=p.threads.length:=by rw [<- hxs,QQ]
 have hthr:=hPl.threads;refine⟨Unit,fun _=>⟨[(1,At0 L)],[]⟩,fun _ X=>X.heap[L]?=some (.cells pc.toArray 29 (0,0))/\Bw w X,⟨(),⟨.cons (by rw [hL];rfl) .nil,rfl⟩,by rw [hL];exact zz w _,(zba w _)⟩,?_⟩;rintro _ X ⟨f0,hbX⟩;have c3':X.cell? ⟨L,0+3,none⟩=some (.slice p3 p.threads.length c3):=zc (za f0) (i:=3) (by simpa using h3);have c1':X.cell? ⟨L,0+1,none⟩=some (.slice q1 p.locs.length k1):=zc (za f0) (i:=1) (by simpa using hpc1);refine⟨_,c3',biE (fun h1=>?_) fun h1=>?_⟩
 ·exact brT ⟨⟨_,rfl⟩,hbX⟩
 have h1:¬ (3:Int)<(p.threads.length:Int):=dF h1;refine⟨_,c1',biE (fun h2=>?_) fun h2=>?_⟩
 ·exact⟨⟨_,rfl⟩,hbX⟩
 refine⟨Nat,fun n=>⟨[(3,i64 (n:Nat))],[]⟩,fun n X=>Bw w X,?_,?_⟩
 ·refine⟨_,c3',?_⟩;refine⟨Nat×Nat,fun s=>⟨[(3,i64 (s.2:Nat)),(19,.slice p3 p.threads.length c3),(20,i64 p.threads.length),(21,i64 (s.1:Nat))],[]⟩,fun s Y=>(s.1<=p.threads.length/\s.2<=5*s.1)/\Bw w Y,fun s=>p.threads.length-s.1,(0,0),
   (cvE rfl rfl),⟨⟨Gb _,UY _⟩,hbX⟩,?_⟩
  clear c3' c1' f0 hbX;rintro⟨m,n⟩ Y ⟨⟨hm,hnm⟩,hbY⟩;dsimp only at hm hnm ⊢;refine biE (fun hc=>?_) fun hc=>?_
  ·have hc:(m:Int)<(p.threads.length:Int):=dT hc;have hmt:m<p.threads.length:=by omega
   have hmx:m<xs.length:=by omega
   obtain⟨b3,o3,hp3,hb3,hat3⟩:=zfr (zec.below (hbY.mono hB)) hmx;have hB2:b3<Y.heap.size:=nL hb3 (UO hB hbY.size);have e3:some (Value.slice p3 p.threads.length c3)=some (Value.slice (some ⟨b3,o3,none⟩) p.threads.length c3):=by rw [hp3]
   subst hp3;refine⟨m,rfl,hmt,zi0 xs[m],by have:=zc (hat3 m hmx) (i:=0) (v:=zi0 xs[m]) rfl;exact this,?_⟩;obtain⟨hrm,hrb⟩:=hxr _ (gM hmx);have hsl:SlR zH Y xs[m].2.1 xs[m].1:=(hrm.below (hbY.mono hB)).slr (UO hB hbY.size);obtain⟨l,hl⟩:=nm (xs[m].1);obtain⟨ql,hql⟩:=nm (xs[m].2.1);obtain⟨cl,hcl⟩:=nm (xs[m].2.2);have hv:zi0 xs[m] = .slice ql l.length cl:=by rw [hl,hql,hcl];rfl
   rw [<- hl,<- hql] at hsl;rw [hv];refine biE (fun h5=>?_) fun h5=>?_
   ·exact brT ⟨⟨_,rfl⟩,hbY⟩
   have h5:¬ (5:Int)<(l.length:Int):=dF h5;have hl5:l.length<=5:=by omega
   refine cmo (zrO hsl (by omega)) ?_;rintro e Z ⟨⟨b,rfl⟩,hbZ⟩;have hwZ:=zst hbY hbZ;have hslZ:=hsl.below hbZ;refine biE (fun h6=>?_) fun h6=>?_
   ·exact⟨⟨_,rfl⟩,hwZ⟩
   refine⟨Nat×Nat,fun s=>⟨[(3,i64 (s.2:Nat)),(19,.slice (some ⟨b3,o3,none⟩) p.threads.length c3),(20,i64 p.threads.length),(21,i64 (m:Nat)),(33,.slice ql l.length cl),(34,i64 l.length),(35,i64 (s.1:Nat))],[]⟩,fun s V=>(s.1<=l.length/\s.2<=5*m+s.1)/\Bw Z V,fun s=>l.length-s.1,(0,n),
    (cvE rfl rfl),⟨⟨Gb _,by show n<=5*m+0;omega⟩,Gd _ _⟩,?_⟩
   rintro⟨k,n2⟩ V ⟨⟨hk,hn2⟩,hbV⟩;dsimp only at hk hn2 ⊢;refine biE (fun hc=>?_) fun hc=>?_
   ·have hc:(k:Int)<(l.length:Int):=dT hc;have hkl:k<l.length:=(by omega);obtain⟨bp,op,hqe,hlp,hat⟩:=hslZ.at hkl;subst hqe;refine⟨k,rfl,hkl,zH.enc l[k],zH.len _,zm hbV (hat k hkl),nL hlp hbV.size,zn (X:=V) (v := .agg (zH.enc l[k]).toArray) k41 (zH.len _) rfl (Qm.2 fun u hu=>zH.one _ u hu) fun U hbU fU sU=>?_⟩;have fU:U.heap[V.heap.size]?=some (.cells (zH.enc l[k]).toArray 41 (0,0)):=fU;have c0:U.cell? ⟨V.heap.size,0+0,none⟩=some (u8 l[k].op):=zc (za fU) (i:=0) rfl;have hZU:=zst hbV hbU;have fin1:(k+1<=l.length/\n2+1<=5*m+(k+1))/\Bw Z U:=⟨⟨hkl,by omega⟩,hZU⟩;have fin0:(k+1<=l.length/\n2<=5*m+(k+1))/\Bw Z U:=⟨⟨hkl,by omega⟩,hZU⟩;have lt:l.length-(k+1)<l.length-k:=(by omega);refine⟨_,c0,biE (fun h7=>?_) fun h7=>?_⟩
    ·exact brT (brT (nxI (by omega) (nxI (by omega) ⟨(k+1,n2+1),(cvE rfl rfl),fin1,lt⟩)))
    ·refine⟨_,c0,biE (fun h8=>?_) fun h8=>?_⟩
     ·exact brT (nxI (by omega) (nxI (by omega) ⟨(k+1,n2+1),(cvE rfl rfl),fin1,lt⟩))
     ·refine⟨_,c0,biE (fun h9=>?_) fun h9=>?_⟩
      ·refine⟨_,c0,biE (fun h=>?_) fun h=>?_⟩
       ·exact nxI (by omega) (nxI (by omega) ⟨(k+1,n2+1),(cvE rfl rfl),fin1,lt⟩)
       ·exact nxI (by omega) ⟨(k+1,n2),(cvE rfl rfl),fin0,lt⟩
      ·exact brF (nxI (by omega) ⟨(k+1,n2),(cvE rfl rfl),fin0,lt⟩)
   ·exact nxI (by omega) ⟨(m+1,n2),(cvE rfl rfl),⟨⟨hmt,by show n2<=5*(m+1);omega⟩,(zst hwZ hbV)⟩,zdc (by omega)⟩
  ·exact⟨n,(cvE rfl rfl),hbY⟩
 rintro n Y hbY;exact⟨⟨_,rfl⟩,hbY⟩
theorem zrG (hB:B<=w.heap.size) (hP:PrgX B w pc p) (hG:GlobE w) :
  Calls PG 9 #[.agg pc.toArray] w fun e w'=>((∃ V,zcC p=true/\zcz p V 300/\∃ (xs:List zcq) (q:OA) (c:Nat),e = .returned (.tuple #[.slice q xs.length c,.bool true])/\xs.map (·.1)=zZ p V/\OwnS exE 55 w.heap.size w' q c xs/\∀ x∈xs,OwnS evE 60 w.heap.size w' x.2.1 x.2.2 x.1.ev)\/e = .returned (.tuple #[.slice none 0 0,.bool false]))/\Bw w w':=by
 refine qX 22 [.agg pc.toArray] (.c .p (.s .p (.s .p .p))) Tryz.func9 ?_;obtain⟨L,hL⟩:=nm (w.heap.size);have hpc:=hP.v.size;refine⟨Unit,fun _=>⟨[(1,At0 L)],[]⟩,fun _ X=>X.heap[L]?=some (.cells pc.toArray 29 (0,0))/\Bw w X,⟨(),⟨.cons (by rw [hL];rfl) .nil,rfl⟩,by rw [hL];exact zz w _,(zba w _)⟩,?_⟩;rintro _ X ⟨f0,hbX⟩;refine⟨pc,hpc,za f0,hlt f0,cmo (zrN (UO hB hbX.size) (hP.below (hbX.mono hB))) ?_⟩;rintro e Y ⟨⟨b,rfl⟩,hbY⟩;have hwY:=zst hbX hbY;have f0Y:=zb hbY f0
 cases b with
 | false =>
  exact brT (brT ⟨.inr rfl,hwY⟩)
 | true =>
  refine brF ⟨pc,hpc,za f0Y,hlt f0Y,cmo (ziM (UO hB hwY.size) (hP.v.below (hwY.mono hB)) (hG.c.below hwY)) ?_⟩;rintro e Z ⟨m,rfl,hm,hbZ⟩;have hwZ:=zst hwY hbZ;have f0Z:=zb hbZ f0Y;refine biE (fun h=>?_) fun h=>?_
  ·exact⟨.inr rfl,hwZ⟩
  have hm0:m=0:=by
   have h2:(!decide ((m:Int)=0))=false:=h;simpa using h2
  have hok:=hm.1 hm0;refine⟨pc,hpc,za f0Z,hlt f0Z,cmo (zgN (most:=300) (UO hB hwZ.size) (hP.below (hwZ.mono hB)) (hG.below hwZ) hok (by decide) fun V _=>zgH (zc7 hok)) ?_⟩;rintro e U ⟨(⟨V,hco,xs,q,c,rfl,hxs,oX,oE⟩ | ⟨_,rfl⟩),hbU⟩
  ·exact⟨.inl ⟨V,hok,hco,xs,q,c,rfl,hxs,oX.lower hwZ.size,fun x hx=>(oE x hx).lower hwZ.size⟩,(zst hwZ hbU)⟩
  ·exact⟨.inr rfl,(zst hwZ hbU)⟩
end
def chR (Rs:List (List (List Nat))) (ds:List Nat) (j:Nat):List Nat:=(Rs.getD j []).getD (ds.getD j 0) []
theorem zoL (R:List (List Nat)) (Rs:List (List (List Nat))) (ds:List Nat):chR (R::Rs) ds 0=R.getD (ds.headD 0) []:=by
 cases ds <;> rfl
theorem zep (R:List (List Nat)) (Rs:List (List (List Nat))) (ds:List Nat) (j:Nat):chR (R::Rs) ds (j+1)=chR Rs ds.tail j:=by
 cases ds with
 | nil=>show (Rs.getD j []).getD (([]:List Nat).getD (j+1) 0) []=(Rs.getD j []).getD (([]:List Nat).getD j 0) [];rfl
 | cons d ds=>rfl
theorem zcV (ev:List Ev):∀ (Rs:List (List (List Nat))) (l:Nat) (ds:List Nat) (p:RelD×(Nat->UInt8)),(∀ j,j<Rs.length->(chR Rs ds j).Nodup)->(∀ i j j',j<Rs.length->j'<Rs.length->i∈chR Rs ds j->i∈chR Rs ds j'->j=j') ->
  (coG ev l Rs ds p).1.n=p.1.n/\∀ i j,zL (coG ev l Rs ds p).1 i j=true↔(∃ k,k<Rs.length/\i∈chR Rs ds k/\j∈twl (chR Rs ds k).reverse i)\/((∀ k,k<Rs.length->i ∉ chR Rs ds k)/\zL p.1 i j=true)
 | [],l,ds,p,_,_=>⟨rfl,fun i j=>⟨fun h => .inr ⟨fun k hk=>Gs hk (Ud _),h⟩,fun h=>by
   rcases h with ⟨k,hk,_⟩ | h
   ·exact Gs hk (Ud _)
   ·exact h.2⟩⟩
 | R::Rs,l,ds,p,hn,hd=>by
  obtain⟨q,hq⟩:=nm ((jX (R.getD (ds.headD 0) []) p.1,upd p.2 l (ev.getD ((R.getD (ds.headD 0) []).getLastD 0) ev0).v));have e:coG ev l (R::Rs) ds p=coG ev (l+1) Rs ds.tail q:=by rw [hq];rfl
  obtain⟨h1,h2⟩:=zcV ev Rs (l+1) ds.tail q (fun j hj=>by rw [<- zep R];exact hn (j+1) (by rw [Qv];omega)) (fun i j j' hj hj' a b=>by
   rw [<- zep R] at a b;have:=hd i (j+1) (j'+1) (by rw [Qv];omega) (by rw [Qv];omega) a b;omega)
  have hn0:=hn 0 (by rw [Qv];omega);rw [e];refine⟨h1.trans (by rw [hq];rfl),fun i j=>?_⟩;have hb:zL q.1 i j=if i∈chR (R::Rs) ds 0 then decide (j∈twl (chR (R::Rs) ds 0).reverse i) else zL p.1 i j:=by
   rw [hq,<- zoL R Rs ds];unfold zL jX;show (zgi (chR (R::Rs) ds 0).reverse p.1.to 0 i).testBit j=_;rw [zgh _ _ _ ((List.reverse_perm _).nodup_iff.2 hn0),QG,Ux];by_cases h:i∈chR (R::Rs) ds 0
   ·rw [Gr h,Gr (List.mem_reverse.2 h)]
   ·rw [Gq h,Gq fun h2=>h (List.mem_reverse.1 h2)]
  rw [h2,hb];constructor
  ·rintro (⟨k,a1,a2,a3⟩ | ⟨a1,a2⟩)
   ·rw [<- zep R] at a2 a3;exact .inl ⟨k+1,by rw [Qv];omega,a2,a3⟩
   ·by_cases h:i∈chR (R::Rs) ds 0
    ·rw [Gr h] at a2;exact .inl ⟨0,by rw [Qv];omega,h,dT a2⟩
    ·rw [Gq h] at a2;refine .inr ⟨fun k hk=>?_,a2⟩
     cases k with
     | zero=>exact h
     | succ k=>rw [zep];exact a1 k (by rw [Qv] at hk;omega)
  ·rintro (⟨k,a1,a2,a3⟩ | ⟨a1,a2⟩)
   ·cases k with
    | zero =>
     refine .inr ⟨fun k hk h=>?_,by rw [Gr a2];exact Uu a3⟩;rw [<- zep R] at h;have:=hd i 0 (k+1) (by rw [Qv];omega) (by rw [Qv];omega) a2 h;omega
    | succ k =>
     rw [zep] at a2 a3;exact .inl ⟨k,by rw [Qv] at a1;omega,a2,a3⟩
   ·refine .inr ⟨fun k hk h=>?_,?_⟩
    ·rw [<- zep R] at h;exact a1 (k+1) (by rw [Qv];omega) h
    ·rw [Gq (a1 0 (by rw [Qv];omega))];exact a2
theorem zlZ (x:ExD):∀ (Rs:List (List (List Nat))) (l:Nat) (ds:List Nat) (p:RelD×(Nat->UInt8)),(∀ j,j<Rs.length->chR Rs ds j=zP x (l+j))->coG x.ev l Rs ds p=znL x Rs.length l p
 | [],l,ds,p,_=>rfl
 | R::Rs,l,ds,p,h=>by
  have h0:=h 0 (by rw [Qv];omega);rw [zoL,UN] at h0;show coG x.ev (l+1) Rs ds.tail (jX (R.getD (ds.headD 0) []) p.1,upd p.2 l (za9 x.ev (R.getD (ds.headD 0) [])))=znL x Rs.length (l+1) (jX (zP x l) p.1,upd p.2 l (za9 x.ev (zP x l)));rw [h0];refine zlZ x Rs (l+1) ds.tail _ fun j hj=>?_;rw [<- zep R,h (j+1) (by rw [Qv];omega)];congr 1;omega
theorem ziX:∀ {s:List Nat},s.Nodup->s.Pairwise fun a b=>a∈twl s b
 | [],_ => .nil
 | y::s,h=>by
  have h2:=QX.1 h;refine List.pairwise_cons.2 ⟨fun b hb=>?_,?_⟩
  ·rw [z9,Gq (fun e=>h2.1 (by rw [e];exact hb))];exact KC
  ·refine List.Pairwise.imp_of_mem ?_ (ziX h2.2);intro a b ha hb hab;rw [z9,Gq (fun e=>h2.1 (by rw [e];exact hb))];exact Ka _ hab
theorem zlG {key:Nat->Nat}:∀ {s:List Nat},s.Pairwise (fun a b=>key a<key b)->∀ a b,a∈s->b∈s->a≠b->key a≠key b
 | [],_,a,b,ha,_,_=>by cases ha
 | y::s,h,a,b,ha,hb,hne=>by
  have h2:=List.pairwise_cons.1 h;rcases UE.1 ha with e | e
  ·rcases UE.1 hb with e2 | e2
   ·exact Gs (e.trans e2.symm) hne
   ·have:=h2.1 b e2;rw [e];omega
  ·rcases UE.1 hb with e2 | e2
   ·have:=h2.1 a e;rw [e2];omega
   ·exact zlG h2.2 a b e e2 hne
theorem zl7 {key:Nat->Nat}:∀ {a b:List Nat},a.Pairwise (fun x y=>key x<key y)->b.Pairwise (fun x y=>key x<key y)->(∀ x,x∈a↔x∈b)->a=b
 | [],[],_,_,_=>rfl
 | [],y::b,_,_,h=>Gs ((h y).2 (KC ..)) (by simp)
 | x::a,[],_,_,h=>Gs ((h x).1 (KC ..)) (by simp)
 | x::a,y::b,ha,hb,h=>by
  rw [List.pairwise_cons] at ha hb;have e:x=y:=by
   rcases UE.1 ((h x).1 (KC ..)) with e | h1
   ·exact e
   ·rcases UE.1 ((h y).2 (KC ..)) with e | h2
    ·exact e.symm
    ·have:=hb.1 x h1;have:=ha.1 y h2;omega
  subst e;rw [zl7 ha.2 hb.2 fun z=>?_];have hz:=h z;rw [UE,UE] at hz;constructor
  ·intro hza;rcases hz.1 (.inr hza) with e | h2
   ·subst e;have:=ha.1 z hza;omega
   ·exact h2
  ·intro hzb;rcases hz.2 (.inr hzb) with e | h2
   ·subst e;have:=hb.1 z hzb;omega
   ·exact h2
theorem zfS {x:ExD} {l:Nat} {rk:List Nat} (h48:x.ev.length<=48) (hp:rk.Perm (zW x l)) (hb:∀ i,i∈rk->∀ j,zL x.co i j=decide (j∈twl rk.reverse i)):zP x l=rk:=by
 have hwn:(zW x l).Nodup:=List.nodup_range.filter _;have hn:rk.Nodup:=hp.nodup_iff.2 hwn;have hrn:rk.reverse.Nodup:=(List.reverse_perm _).nodup_iff.2 hn;have hlt:∀ i,i∈rk->i<64:=fun i hi=>by have:=zdt (hp.subset hi);omega
 have key:rk.reverse.Pairwise fun a b=>zbz x a<zbz x b:=by
  refine List.Pairwise.imp_of_mem ?_ (ziX hrn);intro a b ha hb2 hab;have ha:=List.mem_reverse.1 ha;have hb2:=List.mem_reverse.1 hb2;show zby (x.co.to a)<zby (x.co.to b);rw [zjC,zjC];refine zkZ (j:=a) (fun i _ hi=>?_) (hlt a ha) ?_ ?_
  ·have h1:zL x.co a i=true:=hi;rw [hb a ha] at h1;show zL x.co b i=true;rw [hb b hb2];exact Uu (zg8 hab (dT h1))
  ·show zL x.co a a=false;rw [hb a ha];exact Uj fun h=>(zdR h).2 rfl
  ·show zL x.co b a=true;rw [hb b hb2];exact Uu hab
 have mem:∀ a,a∈sG x l↔a∈rk.reverse:=fun a=>zmk.trans (hp.mem_iff.symm.trans List.mem_reverse.symm);have e:sG x l=rk.reverse:=by
  exact zl7 (key:=zbz x) (ze0 (zh0 _ _) (znE l) fun a b ha hb2 hne=>zlG key a b ((mem a).1 ha) ((mem b).1 hb2) hne) key mem
 rw [znN,e,Kd]
section
variable {init:List UInt8} {Ps:List PathD} {m:MixD} {ds:List Nat}
theorem zer (h:ChoiceW init Ps m):(zq m ds).ev.length<=48:=by
 rw [zfA,h.len];exact h.n
theorem ChoiceW.ch (h:ChoiceW init Ps m) (hd:ds∈z6 (zG m)):∀ l,l<init.length->(chR (m.wr.map zB) (ds.drop m.rs.length) l).Perm (zW m.base l)/\(chR (m.wr.map zB) (ds.drop m.rs.length) l).headD 48=l:=by
 intro l hl;obtain⟨h1,h2⟩:=zal hd;obtain⟨w1,w2⟩:=h.wr;have hlw:l<m.wr.length:=by omega
 have hw:m.wr[l]=zW m.base l:=by
  have:=w2 l hl;rw [gDe,gE hlw] at this;exact this
 have hs:(zG m)[m.rs.length+l]?=some (zB (zW m.base l)).length:=by
  unfold zG;rw [Jn (by rw [QQ];omega),QQ,JA,KX,gE hlw,hw];rfl
 have hlen:m.rs.length+l<ds.length:=by rw [h1];exact (Js.1 hs).1
 have hdl:=h2 _ _ _ hs (gE hlen);have e1:(m.wr.map zB).getD l []=zB (zW m.base l):=by
  rw [gDe,KX,gE hlw,hw];rfl
 have e2:(ds.drop m.rs.length).getD l 0=ds[m.rs.length+l]:=by
  rw [gDe,Kz,gE hlen];rfl
 have e3:chR (m.wr.map zB) (ds.drop m.rs.length) l=(zB (zW m.base l))[ds[m.rs.length+l]]:=by
  unfold chR;rw [e1,e2,gDe,gE hdl];rfl
 have hm:chR (m.wr.map zB) (ds.drop m.rs.length) l∈zB (zW m.base l):=by rw [e3];exact gM hdl
 obtain⟨g1,g2⟩:=h.head hl;have h48:(zW m.base l).length<=48:=by
  have:=zfl m.base l;have:=h.n;have:=h.len;omega
 obtain⟨r1,r2⟩:=zhn g1 h48 hm;exact⟨r1,r2.trans g2⟩
theorem ChoiceW.chx (h:ChoiceW init Ps m) (hd:ds∈z6 (zG m)):(∀ j,j<(m.wr.map zB).length->(chR (m.wr.map zB) (ds.drop m.rs.length) j).Nodup)/\∀ i j j',j<(m.wr.map zB).length->j'<(m.wr.map zB).length->i∈chR (m.wr.map zB) (ds.drop m.rs.length) j->i∈chR (m.wr.map zB) (ds.drop m.rs.length) j'->j=j':=by
 rw [QQ,h.wr.1];refine⟨fun j hj=>(h.ch hd j hj).1.nodup_iff.2 (List.nodup_range.filter _),fun i j j' hj hj' a b=>?_⟩;have a:=(h.ch hd j hj).1.subset a;have b:=(h.ch hd j' hj').1.subset b;exact (zbM.1 a).2.2.symm.trans (zbM.1 b).2.2
theorem ChoiceW.rank (h:ChoiceW init Ps m) (hd:ds∈z6 (zG m)) {l:Nat} (hl:l<init.length):zP (zq m ds) l=chR (m.wr.map zB) (ds.drop m.rs.length) l:=by
 obtain⟨c1,c2⟩:=h.chx hd;obtain⟨_,hb⟩:=zcV m.base.ev (m.wr.map zB) 0 (ds.drop m.rs.length) (m.base.co,m.base.mem) c1 c2;refine zfS (zer h) (h.ch hd l hl).1 fun i hi j=>?_;have e:zL (zq m ds).co i j=zL (coG m.base.ev 0 (m.wr.map zB) (ds.drop m.rs.length) (m.base.co,m.base.mem)).1 i j:=rfl;rw [e,Bool.eq_iff_iff,hb,dE];have hlw:l<(m.wr.map zB).length:=by rw [QQ,h.wr.1];exact hl
 constructor
 ·rintro (⟨k,a1,a2,a3⟩ | ⟨a1,a2⟩)
  ·have:=c2 i k l a1 hlw a2 hi;rw [<- this];exact a3
  ·exact Gs hi (a1 l hlw)
 ·exact fun hj => .inl ⟨l,hlw,hi,hj⟩
theorem ChoiceW.res (h:ChoiceW init Ps m) (hd:ds∈z6 (zG m)):((zq m ds).co,(zq m ds).mem)=znL (zq m ds) init.length 0 (⟨(zq m ds).ev.length,fun _=>0⟩,fun _=>0):=by
 have e:=zlZ (zq m ds) (m.wr.map zB) 0 (ds.drop m.rs.length) (m.base.co,m.base.mem) fun j hj=>by
  rw [QQ,h.wr.1] at hj;rw [UT,h.rank hd hj]
 obtain⟨_,b2,b3,_⟩:=zcg (init:=init) (Ps:=Ps);have e2:(m.base.co,m.base.mem)=((⟨(zq m ds).ev.length,fun _=>0⟩,fun _=>0):RelD×(Nat->UInt8)):=by
  rw [zfA,h.len,h.base,b2,b3];rfl
 rw [QQ,h.wr.1] at e;show coG (zq m ds).ev 0 (m.wr.map zB) (ds.drop m.rs.length) (m.base.co,m.base.mem)=_;rw [e,e2]
theorem zkx (a:RelD):qM a a=true:=by
 unfold qM;rw [Uu rfl,UA,Qm];exact fun i _=>Uu rfl
theorem ChoiceW.co (h:ChoiceW init Ps m) (hd:ds∈z6 (zG m)):zam (zq m ds) init.length=true:=by
 unfold zam;have e:=(zjW (x:=zq m ds) init.length 0 (⟨(zq m ds).ev.length,fun _=>0⟩,fun _=>0) _).2 ⟨fun k _ hk=>by
  rw [h.rank hd (by omega)];exact (h.ch hd k (by omega)).2,h.res hd⟩
 rw [e];dsimp only;rw [zkx,UA,Qm];exact fun l _=>Uu rfl
end
theorem zb5 {r:RelD} {n:Nat} (hn:r.n=n) (h48:n<=48) (h:∀ i j,i<48->zL r i j=true->i<n/\j<n):RelOk n r:=by
 refine .of hn h48 h fun i hi=>QC fun hge=>?_;obtain⟨j,hj1,hj2⟩:=Ja hge;have:=(h i j hi hj2).2;omega
theorem zps (ev:List Ev) {i j:Nat}:zL (poR ev) i j=true↔∃ e,ev[i]?=some e/\e.th ≠ -1/\i<j/\j<ev.length/\(ev.getD j ev0).th=e.th:=by
 unfold zL poR;show (zbK ev i).testBit j=true↔_;unfold zbK
 cases he:ev[i]? with
 | none=>simp
 | some e =>
  have hi:i<ev.length:=(Js.1 he).1;dsimp only;by_cases h1:e.th = -1
  ·rw [Gr h1];simp [h1]
  ·rw [Gq h1,zl9];rw [Qw];constructor
   ·rintro (h | ⟨m,h2,h3,h4⟩)
    ·simp at h
    ·rw [zhF] at h4;exact⟨e,rfl,h1,by omega,by omega,by rw [h3];exact h4⟩
   ·rintro⟨e',he',_,h2,h3,h4⟩
    cases he'
    refine .inr ⟨j-(i+1),by omega,by omega,?_⟩;rw [zhF,show i+1+(j-(i+1))=j by omega];exact h4
theorem zlt:∀ (rs:List (Nat×List Nat)) (ds:List Nat) (f:Nat->Nat) (i j:Nat),(rfF rs ds f i).testBit j=true↔(f i).testBit j=true\/∃ (t:Nat) (r:Nat×List Nat),rs[t]?=some r/\i=r.2.getD (ds.getD t 0) 0/\j=r.1
 | [],ds,f,i,j=>⟨fun h => .inl h,fun h=>by
   rcases h with h | ⟨t,r,h,_⟩
   ·exact h
   ·simp at h⟩
 | (r,s)::rs,ds,f,i,j=>by
  show (rfF rs ds.tail (upd f (s.getD (ds.headD 0) 0) (f (s.getD (ds.headD 0) 0)|||2^r)) i).testBit j=true↔_;rw [zlt rs];have ht:∀ t,ds.tail.getD t 0=ds.getD (t+1) 0:=fun t=>by cases ds <;> rfl
  have h0:ds.headD 0=ds.getD 0 0:=by cases ds <;> rfl
  have hu:(upd f (s.getD (ds.headD 0) 0) (f (s.getD (ds.headD 0) 0)|||2^r) i).testBit j=true↔(f i).testBit j=true\/(i=s.getD (ds.getD 0 0) 0/\j=r):=by
   rw [h0];by_cases e:i=s.getD (ds.getD 0 0) 0
   ·rw [e,zE,Ut,zaW,QJ,dE];simp
   ·rw [zV _ _ e];exact⟨.inl,fun h=>h.resolve_right fun h2=>e h2.1⟩
  rw [hu];constructor
  ·rintro ((h | ⟨h1,h2⟩) | ⟨t,q,h1,h2,h3⟩)
   ·exact .inl h
   ·exact .inr ⟨0,(r,s),rfl,h1,h2⟩
   ·exact .inr ⟨t+1,q,h1,by rw [<- ht];exact h2,h3⟩
  ·rintro (h | ⟨t,q,h1,h2,h3⟩)
   ·exact .inl (.inl h)
   ·cases t with
    | zero =>
     have h1:some (r,s)=some q:=h1
     cases h1
     exact .inl (.inr ⟨h2,h3⟩)
    | succ t=>exact .inr ⟨t,q,h1,by rw [ht];exact h2,h3⟩
theorem zd1 (b:Nat):∀ (ps:List (Nat×Nat)) (f:Nat->Nat) (i j:Nat),(zeD b ps f i).testBit j=true↔(f i).testBit j=true\/∃ p∈ps,i=b+p.1/\j=b+p.2
 | [],f,i,j=>⟨fun h => .inl h,fun h=>by
   rcases h with h | ⟨p,h,_⟩
   ·exact h
   ·cases h⟩
 | p::ps,f,i,j=>by
  show (zeD b ps (upd f (b+p.1) (f (b+p.1)|||2^(b+p.2))) i).testBit j=true↔_;rw [zd1 b ps];have hu:(upd f (b+p.1) (f (b+p.1)|||2^(b+p.2)) i).testBit j=true↔(f i).testBit j=true\/(i=b+p.1/\j=b+p.2):=by
   by_cases e:i=b+p.1
   ·rw [e,zE,Ut,zaW,QJ,dE];simp
   ·rw [zV _ _ e];simp [e]
  rw [hu];constructor
  ·rintro ((h | h) | ⟨q,hq,h⟩)
   ·exact .inl h
   ·exact .inr ⟨p,KC,h⟩
   ·exact .inr ⟨q,Ka _ hq,h⟩
  ·rintro (h | ⟨q,hq,h⟩)
   ·exact .inl (.inl h)
   ·rcases UE.1 hq with e | e
    ·rw [e] at h;exact .inl (.inr h)
    ·exact .inr ⟨q,e,h⟩
theorem getD_some {L:List Nat} {k:Nat} (h:k<L.length):L[k]?=some (L.getD k 0):=by
 rw [gDe,gE h];rfl
theorem zpQ {L:List Nat} {k v:Nat} (h:L[k]?=some v):L.getD k 0=v:=by
 rw [gDe,h];rfl
def zff (sel:PathD->List (Nat×Nat)):Nat->List PathD->Nat->Nat->Prop
 | _,[],_,_=>False
 | b,P::Ps,i,j=>(∃ p∈sel P,i=b+p.1/\j=b+p.2)\/zff sel (b+P.ev.length) Ps i j
theorem zfH (x:ExD) (k:Nat) (P:PathD):(zbZ x k P).ev.length=x.ev.length+P.ev.length:=by
 show (x.ev++zbm k P.ev).length=_;rw [lap];unfold zbm;rw [QQ]
theorem zoX:∀ (Ps:List PathD) (k:Nat) (x:ExD) (i j:Nat),zL (asR k Ps x).dt i j=true↔zL x.dt i j=true\/zff PathD.data x.ev.length Ps i j
 | [],k,x,i,j=>⟨fun h => .inl h,fun h=>h.elim id False.elim⟩
 | P::Ps,k,x,i,j=>by
  show zL (asR (k+1) Ps (zbZ x k P)).dt i j=true↔_;rw [zoX Ps,zfH];show ((zeD x.ev.length P.data x.dt.to i).testBit j=true\/_)↔_;rw [zd1,or_assoc];rfl
theorem zoY:∀ (Ps:List PathD) (k:Nat) (x:ExD) (i j:Nat),zL (asR k Ps x).ct i j=true↔zL x.ct i j=true\/zff PathD.ctrl x.ev.length Ps i j
 | [],k,x,i,j=>⟨fun h => .inl h,fun h=>h.elim id False.elim⟩
 | P::Ps,k,x,i,j=>by
  show zL (asR (k+1) Ps (zbZ x k P)).ct i j=true↔_;rw [zoY Ps,zfH];show ((zeD x.ev.length P.ctrl x.ct.to i).testBit j=true\/_)↔_;rw [zd1,or_assoc];rfl
theorem zoW:∀ (Ps:List PathD) (k:Nat) (x:ExD) (i j:Nat),zL (asR k Ps x).rm i j=true↔zL x.rm i j=true\/zff PathD.rmw x.ev.length Ps i j
 | [],k,x,i,j=>⟨fun h => .inl h,fun h=>h.elim id False.elim⟩
 | P::Ps,k,x,i,j=>by
  show zL (asR (k+1) Ps (zbZ x k P)).rm i j=true↔_;rw [zoW Ps,zfH];show ((zeD x.ev.length P.rmw x.rm.to i).testBit j=true\/_)↔_;rw [zd1,or_assoc];rfl
theorem ziy {sel:PathD->List (Nat×Nat)}:∀ (Ps:List PathD) (k b i j:Nat),(∀ P∈Ps,∀ p∈sel P,p.1<P.ev.length/\p.2<P.ev.length)->zff sel b Ps i j->i<b+(zeP k Ps).length/\j<b+(zeP k Ps).length
 | [],k,b,i,j,h,hd=>hd.elim
 | P::Ps,k,b,i,j,h,hd=>by
  have e:(zeP k (P::Ps)).length=P.ev.length+(zeP (k+1) Ps).length:=by
   show (zbm k P.ev++zeP (k+1) Ps).length=_;rw [lap];unfold zbm;rw [QQ]
  rw [e];rcases hd with ⟨p,hp,h1,h2⟩ | hd
  ·have:=h P KC p hp;omega
  ·have:=ziy Ps (k+1) _ i j (fun Q hQ=>h Q (Ka _ hQ)) hd;omega
section
variable {init:List UInt8} {Ps:List PathD} {m:MixD} {ds:List Nat}
theorem zb0 (n i j:Nat):¬ zL (zcG n) i j=true:=fun h=>by
 have h:(0:Nat).testBit j=true:=h;simp at h
theorem zm5 (h:∀ P∈Ps,PathW init.length P):(∀ i j,zL (jw init Ps).dt i j=true↔zff PathD.data init.length Ps i j)/\(∀ i j,zL (jw init Ps).ct i j=true↔zff PathD.ctrl init.length Ps i j)/\∀ i j,zL (jw init Ps).rm i j=true↔zff PathD.rmw init.length Ps i j:=by
 obtain⟨x0,hx0⟩:∃ x0:ExD,x0={ ex0 (zbn init.length Ps) with ev:=jn 0 init }:=⟨_,rfl⟩;have hl:x0.ev.length=init.length:=by rw [hx0];exact qm init 0
 refine⟨fun i j=>?_,fun i j=>?_,fun i j=>?_⟩
 ·have:=zoX Ps 0 x0 i j;rw [hl] at this;show zL (asR 0 Ps _).dt i j=true↔_;rw [<- hx0,this];exact⟨fun h=>h.resolve_left (by rw [hx0];exact zb0 _ i j),.inr⟩
 ·have:=zoY Ps 0 x0 i j;rw [hl] at this;show zL (asR 0 Ps _).ct i j=true↔_;rw [<- hx0,this];exact⟨fun h=>h.resolve_left (by rw [hx0];exact zb0 _ i j),.inr⟩
 ·have:=zoW Ps 0 x0 i j;rw [hl] at this;show zL (asR 0 Ps _).rm i j=true↔_;rw [<- hx0,this];exact⟨fun h=>h.resolve_left (by rw [hx0];exact zb0 _ i j),.inr⟩
theorem ChoiceW.rfb (h:ChoiceW init Ps m) (hd:ds∈z6 (zG m)) {i j:Nat}:zL (zq m ds).rf i j=true↔∃ (t:Nat) (r:Nat×List Nat),m.rs[t]?=some r/\i∈r.2/\r.2[ds.getD t 0]?=some i/\j=r.1:=by
 obtain⟨h1,h2⟩:=zal hd;obtain⟨b1,_⟩:=zcg (init:=init) (Ps:=Ps);have e:zL (zq m ds).rf i j=(rfF m.rs ds m.base.rf.to i).testBit j:=rfl;rw [e,zlt];have z:¬ (m.base.rf.to i).testBit j=true:=by
  rw [h.base,b1];exact zb0 _ i j
 have dig:∀ {t r},m.rs[t]?=some r->ds.getD t 0<r.2.length:=fun {t r} hr=>by
  have ht:=(Js.1 hr).1;have hs:(zG m)[t]?=some r.2.length:=by
   unfold zG;rw [Jr (by rw [QQ];exact ht),KX,hr];rfl
  have hlen:t<ds.length:=by rw [h1];exact (Js.1 hs).1
  rw [gDe,gE hlen];exact h2 _ _ _ hs (gE hlen)
 constructor
 ·rintro (h | ⟨t,r,g1,g2,g3⟩)
  ·exact Gs h z
  ·have hlt:=dig g1;have e2:r.2[ds.getD t 0]?=some i:=by
    rw [g2];exact getD_some hlt
   exact⟨t,r,g1,Kb e2,e2,g3⟩
 ·rintro⟨t,r,g1,_,g2,g3⟩;exact .inr ⟨t,r,g1,(zpQ g2).symm,g3⟩
structure Rels6 (n:Nat) (x:ExD):Prop where
 po:RelOk n x.po
 rf:RelOk n x.rf
 co:RelOk n x.co
 dt:RelOk n x.dt
 ct:RelOk n x.ct
 rm:RelOk n x.rm
theorem ChoiceW.rels (h:ChoiceW init Ps m) (hd:ds∈z6 (zG m)):Rels6 (zq m ds).ev.length (zq m ds):=by
 have h48:=zer (ds:=ds) h;obtain⟨b1,b2,b3,b4,b5,b6⟩:=zcg (init:=init) (Ps:=Ps);have hl:(zq m ds).ev.length=zbn init.length Ps:=by rw [zfA,h.len]
 have hn:((zbn init.length Ps:Nat):Int)=((zq m ds).ev.length:Nat):=by rw [hl]
 obtain⟨d1,d2,d3⟩:=zm5 h.P;have hb:init.length+(zeP 0 Ps).length=(zq m ds).ev.length:=by
  rw [zfA,h.base,zet,lap,qm]
 refine⟨?_,?_,?_,?_,?_,?_⟩
 ·have e:(zq m ds).po=poR (zq m ds).ev:=by
   show m.base.po=poR m.base.ev;rw [h.base];rfl
  rw [e];refine zb5 rfl h48 fun i j _ hb=>?_;obtain⟨e,he,_,_,h3,_⟩:=(zps _).1 hb;exact⟨(Js.1 he).1,h3⟩
 ·refine zb5 (by show m.base.rf.n=_;rw [h.base,b1];exact hn) h48 fun i j _ hb=>?_;obtain⟨t,r,g1,g2,_,g3⟩:=(h.rfb hd).1 hb;obtain⟨s1,_,s3⟩:=h.src (Kb g1);exact⟨s3 i g2,by rw [g3];exact s1⟩
 ·obtain⟨c1,c2⟩:=h.chx hd;obtain⟨c0,hbits⟩:=zcV m.base.ev (m.wr.map zB) 0 (ds.drop m.rs.length) (m.base.co,m.base.mem) c1 c2;refine zb5 (by show (coG m.base.ev 0 (m.wr.map zB) (ds.drop m.rs.length) (m.base.co,m.base.mem)).1.n=_;rw [c0,h.base,b2];exact hn) h48 fun i j _ hb=>?_;have hb:zL (coG m.base.ev 0 (m.wr.map zB) (ds.drop m.rs.length) (m.base.co,m.base.mem)).1 i j=true:=hb;rcases (hbits i j).1 hb with ⟨k,a1,a2,a3⟩ | ⟨_,a2⟩
  ·rw [QQ,h.wr.1] at a1;have hp:=(h.ch hd k a1).1;exact⟨zdt (hp.subset a2),zdt (hp.subset (List.mem_reverse.1 (zdR a3).1))⟩
  ·rw [h.base,b2] at a2;exact Gs a2 (zb0 _ i j)
 ·refine zb5 (by show m.base.dt.n=_;rw [h.base,b4];exact hn) h48 fun i j _ hb=>?_;have hb:zL m.base.dt i j=true:=hb;rw [h.base,d1] at hb;have:=ziy Ps 0 _ i j (fun P hP p hp=>(h.P P hP).b.dt p hp) hb;omega
 ·refine zb5 (by show m.base.ct.n=_;rw [h.base,b5];exact hn) h48 fun i j _ hb=>?_;have hb:zL m.base.ct i j=true:=hb;rw [h.base,d2] at hb;have:=ziy Ps 0 _ i j (fun P hP p hp=>(h.P P hP).b.ct p hp) hb;omega
 ·refine zb5 (by show m.base.rm.n=_;rw [h.base,b6];exact hn) h48 fun i j _ hb=>?_;have hb:zL m.base.rm i j=true:=hb;rw [h.base,d3] at hb;have:=ziy Ps 0 _ i j (fun P hP p hp=>(h.P P hP).b.rm p hp) hb;omega
end
theorem zeq {p:Prg} {V:List UInt8} (hO:OkG p) {x:ExD} (hx:x∈zZ p V):∃ Ps m ds,ChoiceW p.init Ps m/\m∈z5 p V/\jp m 1≠0/\ds∈z6 (zG m)/\x=zq m ds:=by
 obtain⟨m,hm,hx⟩:=List.mem_flatMap.1 hx;unfold qO at hx
 split at hx
 ·cases hx
 ·rename_i h1;obtain⟨d,_,h⟩:=zdk hO hm;obtain⟨ds,hds,rfl⟩:=UL.1 hx;exact⟨_,m,ds,h,hm,h1,hds,rfl⟩
structure GoodX (k:Nat) (x:ExD):Prop where
 n:x.ev.length<=48
 k1:1<=k
 k6:k<=6
 kn:k<=x.ev.length
 ini:jb x.ev=k
 po:x.po=poR x.ev
 rels:Rels6 x.ev.length x
 co:zam x k=true
 ev0:(evA x 0).k=2/\(evA x 0).l=0
 w8:∀ l,(zW x l).length<=8
theorem zhD:∀ (a b:List Ev),(∀ e∈a,e.th = -1)->(∀ e∈b,e.th ≠ -1)->jb (a++b)=a.length
 | [],b,_,hb=>by
  unfold jb
  cases b with
  | nil=>rfl
  | cons e b=>rw [QW,Kr,Gq (by simpa using hb e KC)]
 | e::a,b,ha,hb=>by
  rw [Qo,zkM,Gr (ha e KC),zhD a b (fun d hd=>ha d (Ka _ hd)) hb,Qv]
theorem zpR {n:Nat} (h:fct (n-1)<20001):n<=8:=by
 refine Nat.le_of_not_lt fun h9=>?_;have h1:fct 8<=fct (n-1):=zeh (by omega);have h2:fct 8=40320:=rfl;omega
section
variable {init:List UInt8} {Ps:List PathD} {m:MixD} {ds:List Nat}
theorem ChoiceW.inits (h:ChoiceW init Ps m):jb m.base.ev=init.length:=by
 rw [h.base,zet,zhD,qm]
 ·intro e he;obtain⟨i,hi,rfl⟩:=Kl he;rw [qm] at hi;have:=zbk init 0 hi;rw [gE (by rw [qm];exact hi)] at this;rw [Uh this]
 ·intro e he;obtain⟨P,hP,a,ha,t,_,_,rfl⟩:=zgy Ps 0 e he;show ((t:Nat):Int) ≠ -1;omega
theorem ChoiceW.good (h:ChoiceW init Ps m) (hd:ds∈z6 (zG m)) (h1:jp m 1≠0) (hc:jp m 20001<=20000):GoodX init.length (zq m ds):=by
 have hin:init.length<=m.base.ev.length:=by rw [h.len];exact zfJ _ _
 have e0:=h.ini (i:=0) (by have:=h.i1;omega);refine⟨zer h,h.i1,h.i6,hin,h.inits,?_,h.rels hd,h.co hd,?_,fun l=>?_⟩
 ·show m.base.po=poR m.base.ev;rw [h.base];rfl
 ·show (evA m.base 0).k=2/\(evA m.base 0).l=0;rw [e0];exact⟨rfl,rfl⟩
 ·show (zW m.base l).length<=8;by_cases hl:l<init.length
  ·have hw:=h.wr.2 l hl;have hlw:l<m.wr.length:=by have:=h.wr.1;omega
   have hm:zW m.base l∈m.wr:=by
    rw [<- hw,gDe,gE hlw];exact gM hlw
   exact zpR (zkQ (fun w hw=>(h.w1 hw).1) (lim:=20001) (by decide) (by omega) h1 _ hm)
  ·have:zW m.base l=[]:=by
    refine Je.2 fun a ha=>?_;obtain⟨a1,a2,a3⟩:=zbM.1 ha;have hmem:evA m.base a∈(jw init Ps).ev:=by
     rw [<- h.base];unfold evA;rw [gDe,gE a1];exact gM a1
    have:=zch h.i6 h.P hmem (.inr (dT a2));omega
   rw [this];exact Gb _
end
theorem zgG {p:Prg} {V:List UInt8} {most:Nat} (hO:OkG p) (hc:zcz p V most) (hm:most<=20000) {x:ExD} (hx:x∈zZ p V):GoodX p.init.length x:=by
 obtain⟨Ps,m,ds,h,hmm,h1,hd,rfl⟩:=zeq hO hx;refine h.good hd h1 ?_;have h2:=hc.2.2;have:=zkJ (f:=fun m=>jp m 20001) hmm;omega
structure RightP (x:ExD):Prop where
 ev:jF x.ev (jb x.ev)=true
 rel:∀ r∈[x.po,x.rf,x.co,x.dt,x.ct,x.rm],r.n=x.ev.length/\okR r=true
 po:qM x.po (poR x.ev)=true
 rf:zaj x=true
 co:zam x (jb x.ev)=true
theorem zea {k:Nat} (h:k<64):(2:Nat)^k<2^64:=Kh (by decide) h
section
variable {k:Nat} {x:ExD} {i:Nat}
structure SpW (y:ExD):Prop where
 w20:∀ l,(zW y l).length<=20
 po:zX y.po.to
 rf:zX y.rf.to
 co:zX y.co.to
 dt:zX y.dt.to
 ct:zX y.ct.to
 rm:zX y.rm.to
end
section
variable {init:List UInt8} {Ps:List PathD} {m:MixD} {ds:List Nat}
theorem zfR (all:List Ev) (W:List (List Nat)):∀ (es:List Ev) (i j:Nat) (e:Ev),es[j]?=some e->e.k=1->∃ (t:Nat) (s:List Nat),(zbv all W i es)[t]?=some (i+j,s)
 | [],i,j,e,h,_=>by simp at h
 | d::es,i,0,e,h,hk=>by
  have e1:d=e:=by simpa using h
  subst e1;unfold zbv;rw [Gr hk];exact⟨0,_,rfl⟩
 | d::es,i,j+1,e,h,hk=>by
  obtain⟨t,s,ht⟩:=zfR all W es (i+1) j e (by simpa using h) hk;rw [show i+1+j=i+(j+1) by omega] at ht;unfold zbv
  split
  ·exact⟨t+1,s,ht⟩
  ·exact⟨t,s,ht⟩
theorem zlv (all:List Ev) (W:List (List Nat)):∀ (es:List Ev) (i:Nat),(zbv all W i es).Pairwise (fun a b=>a.1<b.1)/\∀ r∈zbv all W i es,i<=r.1
 | [],i=>⟨.nil,fun r h=>by cases h⟩
 | d::es,i=>by
  obtain⟨h1,h2⟩:=zlv all W es (i+1);unfold zbv
  split
  ·refine⟨List.pairwise_cons.2 ⟨fun r hr=>?_,h1⟩,fun r hr=>?_⟩
   ·have:=h2 r hr;show i<r.1;omega
   ·rcases UE.1 hr with e | e
    ·rw [e];exact UY _
    ·have:=h2 r e;omega
  ·exact⟨h1,fun r hr=>by have:=h2 r hr;omega⟩
theorem ChoiceW.rs_one (h:ChoiceW init Ps m) {t t':Nat} {r r':Nat×List Nat} (h1:m.rs[t]?=some r) (h2:m.rs[t']?=some r') (he:r.1=r'.1):t=t':=by
 have hp:m.rs.Pairwise (fun a b=>a.1<b.1):=by rw [h.m];exact (zlv _ _ _ _).1
 obtain⟨l1,e1⟩:=Js.1 h1;obtain⟨l2,e2⟩:=Js.1 h2;rcases Nat.lt_trichotomy t t' with g | g | g
 ·have:=List.pairwise_iff_getElem.1 hp t t' l1 l2 g;rw [e1,e2] at this;omega
 ·exact g
 ·have:=List.pairwise_iff_getElem.1 hp t' t l2 l1 g;rw [e1,e2] at this;omega
theorem ChoiceW.rf (h:ChoiceW init Ps m) (hd:ds∈z6 (zG m)):zaj (zq m ds)=true:=by
 have hr:=h.rels hd;have dig:∀ {t r},m.rs[t]?=some r->ds.getD t 0<r.2.length:=fun {t r} hr=>by
  obtain⟨h1,h2⟩:=zal hd;have ht:=(Js.1 hr).1;have hs:(zG m)[t]?=some r.2.length:=by
   unfold zG;rw [Jr (by rw [QQ];exact ht),KX,hr];rfl
  have hlen:t<ds.length:=by rw [h1];exact (Js.1 hs).1
  rw [gDe,gE hlen];exact h2 _ _ _ hs (gE hlen)
 refine (zqU hr.rf).2 ⟨fun a b ha hb hab=>?_,fun b hb hrb=>⟨?_,fun i j hi hj h1 h2=>?_⟩⟩
 ·obtain⟨t,r,h1,h2,h3,h4⟩:=(h.rfb hd).1 hab;obtain⟨e,g1,g2,g3⟩:=h.rs (Kb h1);have hem:e∈(jw init Ps).ev:=by rw [<- h.base];exact Kb g1
  have hel:=zch h.i6 h.P hem (.inl g2);rw [g3,h.wr.2 _ hel] at h2;obtain⟨m1,m2⟩:=QV.1 h2;obtain⟨a1,a2,a3⟩:=zbM.1 m1;have eb:evA (zq m ds) b=e:=by
   show m.base.ev.getD b ev0=e;rw [h4,gDe,g1];rfl
  have m2:(evA m.base a).v=e.v:=dT m2;refine⟨a2,?_,?_,?_⟩
  ·unfold isR;rw [eb];exact Uu g2
  ·rw [eb];exact Ui.1 a3
  ·rw [eb];exact m2
 ·have hb:b<m.base.ev.length:=hb;have hev:m.base.ev[b]?=some (evA m.base b):=by
   unfold evA;rw [gDe,gE hb];rfl
  have hk:(evA m.base b).k=1:=dT hrb;obtain⟨t,s,ht⟩:=zfR m.base.ev m.wr m.base.ev 0 b _ hev hk;have ht:m.rs[t]?=some (0+b,s):=by
   have e:m.rs=zbv m.base.ev m.wr 0 m.base.ev:=by rw [h.m];rfl
   rw [e];exact ht
  rw [UT] at ht;have hlt:=dig ht;have e2:s[ds.getD t 0]?=some (s[ds.getD t 0]'hlt):=gE hlt;have hab:zL (zq m ds).rf (s[ds.getD t 0]'hlt) b=true:=(h.rfb hd).2 ⟨t,(b,s),ht,Kb e2,e2,rfl⟩;exact⟨_,(h.src (Kb ht)).2.2 _ (Kb e2),hab⟩
 ·obtain⟨t,r,g1,g2,g3,g4⟩:=(h.rfb hd).1 h1;obtain⟨t',r',k1,k2,k3,k4⟩:=(h.rfb hd).1 h2;have et:=h.rs_one g1 k1 (by omega);subst et;rw [g1] at k1;obtain rfl:=Uh k1;rw [g3] at k3;exact Uh k3
end
theorem zhG (before:Nat->Nat):∀ (n left:Nat) (l:List Nat),left<2^64->(j6 before n left l).Nodup
 | 0,left,l,hl=>by
  unfold j6
  split
  ·exact List.pairwise_singleton ..
  ·exact .nil
 | n+1,left,l,hl=>by
  unfold j6
  split
  ·exact List.pairwise_singleton ..
  ·show List.Pairwise _ _;rw [List.pairwise_flatMap];refine⟨fun a ha=>?_,List.Pairwise.imp_of_mem ?_ (zdf left)⟩
   ·split
    ·exact zhG before n _ _ (qW hl)
    ·exact .nil
   ·intro a b ha hb hab x hx y hy e
    split at hx
    ·split at hy
     ·obtain⟨s,hs,_⟩:=zei before n _ _ x (qW hl) hx;obtain⟨t,ht,_⟩:=zei before n _ _ y (qW hl) hy;rw [hs,ht,KS,KS] at e;have:=List.append_cancel_left e;simp only [List.singleton_append,QN] at this;exact hab this.1
     ·cases hy
    ·cases hx
theorem zoi {w:List Nat} (hw:w.Nodup) {a b:Nat} (ha:a<w.length) (hb:b<w.length) (h:w.getD a 0=w.getD b 0):a=b:=by
 rw [gDe,gDe,gE ha,gE hb] at h;exact (List.getElem_inj hw).1 h
theorem ze2 {w:List Nat} (hw:w.Nodup):∀ {a b:List Nat},(∀ i∈a,i<w.length)->(∀ i∈b,i<w.length)->a.map (fun k=>w.getD k 0)=b.map (fun k=>w.getD k 0)->a=b
 | [],[],_,_,_=>rfl
 | [],y::b,_,_,h=>by cases h
 | x::a,[],_,_,h=>by cases h
 | x::a,y::b,ha,hb,h=>by
  rw [UD,UD,QN] at h;rw [zoi hw (ha x KC) (hb y KC) h.1,ze2 hw (fun i hi=>ha i (Ka _ hi)) (fun i hi=>hb i (Ka _ hi)) h.2]
theorem zji {w:List Nat} (hw:w.Nodup) (h1:1<=w.length) (hn:w.length<=48):(zB w).Nodup:=by
 unfold zB;dsimp only
 split
 ·refine List.pairwise_map.2 (List.Pairwise.imp_of_mem (R:=fun a b=>a≠b) ?_ ?_)
  ·intro a b ha hb hab e;have p1:=(zf2 h1 hn ha).1;have p2:=(zf2 h1 hn hb).1;exact hab (ze2 hw (fun i hi=>Uq.1 (p1.subset hi)) (fun i hi=>Uq.1 (p2.subset hi)) e)
  ·unfold za5
   split
   ·exact zhG _ _ _ _ (zdm _)
   ·exact .nil
 ·exact .nil
theorem zib (all:List Ev) (W:List (List Nat)):∀ (es:List Ev) (i:Nat),(zbv all W i es).Pairwise fun a b=>a.1<b.1
 | [],i => .nil
 | e::es,i=>by
  unfold zbv
  split
  ·refine List.pairwise_cons.2 ⟨fun r hr=>?_,zib all W es (i+1)⟩;obtain⟨j,d,_,_,h⟩:=zc5 all W es (i+1) r hr;rw [h];show i<i+1+j;omega
  ·exact zib all W es (i+1)
theorem zig {α:Type} {key:α->Nat}:∀ {l:List α},l.Pairwise (fun a b=>key a<key b)->∀ {s t:Nat} {a b:α},l[s]?=some a->l[t]?=some b->key a=key b->s=t
 | [],_,s,t,a,b,h,_,_=>by simp at h
 | x::l,h,0,0,a,b,_,_,_=>rfl
 | x::l,h,0,t+1,a,b,ha,hb,e=>by
  have ha:=Uh ha;have:=(List.pairwise_cons.1 h).1 b (Kb hb);rw [ha] at this;omega
 | x::l,h,s+1,0,a,b,ha,hb,e=>by
  have hb:=Uh hb;have:=(List.pairwise_cons.1 h).1 a (Kb ha);rw [hb] at this;omega
 | x::l,h,s+1,t+1,a,b,ha,hb,e=>by rw [zig (List.pairwise_cons.1 h).2 ha hb e]
theorem znM {a b:RelD} (h:qM a b=true) {i:Nat} (hi:i<48):a.to i=b.to i:=by
 unfold qM at h;rw [bAT,Qm] at h;exact dT (h.2 i (Uq.2 hi))
theorem zkn {x y:ExD} (h:jV x y=true):x.ev=y.ev/\qM x.rf y.rf=true/\qM x.co y.co=true:=by
 unfold jV zb3 at h;simp only [bAT] at h;obtain⟨h1,h2,_,h3,h4,_⟩:=h;refine⟨?_,h3,h4⟩;have h1:=dT h1;refine List.ext_getElem h1 fun i a b=>?_;have:=dT (Qm.1 h2 i (Uq.2 a));unfold evA at this;rw [gDe,gDe,gE a,gE b] at this;exact this
section
variable {init:List UInt8} {Ps:List PathD} {m:MixD} {ds es:List Nat}
theorem ChoiceW.dig_r (h:ChoiceW init Ps m) (hd:ds∈z6 (zG m)) {t:Nat} {r:Nat×List Nat} (hr:m.rs[t]?=some r):∃ d,ds[t]?=some d/\d<r.2.length:=by
 obtain⟨h1,h2⟩:=zal hd;have ht:=(Js.1 hr).1;have hs:(zG m)[t]?=some r.2.length:=by
  unfold zG;rw [Jr (by rw [QQ];exact ht),KX,hr];rfl
 have hlen:t<ds.length:=by rw [h1];exact (Js.1 hs).1
 exact⟨ds[t],gE hlen,h2 _ _ _ hs (gE hlen)⟩
theorem ChoiceW.wr_nodup (h:ChoiceW init Ps m) (l:Nat):(m.wr.getD l []).Nodup:=by
 by_cases hl:l<init.length
 ·rw [h.wr.2 l hl];exact List.nodup_range.filter _
 ·rw [gDe,JM (by rw [h.wr.1];omega)];exact .nil
theorem ChoiceW.rf_dig (h:ChoiceW init Ps m) (hd:ds∈z6 (zG m)) (he:es∈z6 (zG m)) (hs:qM (zq m ds).rf (zq m es).rf=true) {t:Nat} (ht:t<m.rs.length):ds[t]?=es[t]?:=by
 have hr:m.rs[t]?=some m.rs[t]:=gE ht;obtain⟨d,d1,d2⟩:=h.dig_r hd hr;obtain⟨e,e1,e2⟩:=h.dig_r he hr;have hn:m.rs[t].2.Nodup:=by
  obtain⟨_,_,_,hr2⟩:=h.rs (gM ht);rw [hr2];exact (h.wr_nodup _).filter _
 have hi:m.rs[t].2[d]?=some m.rs[t].2[d]:=gE d2;have b1:zL (zq m ds).rf m.rs[t].2[d] m.rs[t].1=true:=(h.rfb hd).2 ⟨t,_,hr,gM d2,by rw [gDe,d1];exact hi,rfl⟩;have h48:m.rs[t].2[d]<48:=by
  have:=(h.src (gM ht)).2.2 _ (gM d2);have:=h.n;rw [<- h.len] at this;omega
 have b2:zL (zq m es).rf m.rs[t].2[d] m.rs[t].1=true:=by
  unfold zL at b1 ⊢;rw [<- znM hs h48];exact b1
 obtain⟨t',r',g1,_,g3,g4⟩:=(h.rfb he).1 b2;have hp:m.rs.Pairwise fun a b=>a.1<b.1:=by
  rw [h.m];exact zib _ _ _ _
 have htt:=zig (key:=fun a:Nat×List Nat=>a.1) hp hr g1 g4;subst htt;have hrr:=Uh (hr.symm.trans g1);rw [<- hrr,gDe,e1] at g3;have g3:m.rs[t].2[e]?=some m.rs[t].2[d]:=g3;rw [gE e2] at g3;have:=(List.getElem_inj hn).1 (Uh g3);rw [d1,e1,this]
theorem ChoiceW.dig_w (h:ChoiceW init Ps m) (hd:ds∈z6 (zG m)) {l:Nat} (hl:l<init.length):∃ d,ds[m.rs.length+l]?=some d/\∃ hlt:d<(zB (zW m.base l)).length,chR (m.wr.map zB) (ds.drop m.rs.length) l=(zB (zW m.base l))[d]:=by
 obtain⟨h1,h2⟩:=zal hd;obtain⟨w1,w2⟩:=h.wr;have hlw:l<m.wr.length:=by omega
 have hw:m.wr[l]=zW m.base l:=by
  have:=w2 l hl;rw [gDe,gE hlw] at this;exact this
 have hs:(zG m)[m.rs.length+l]?=some (zB (zW m.base l)).length:=by
  unfold zG;rw [Jn (by rw [QQ];omega),QQ,JA,KX,gE hlw,hw];rfl
 have hlen:m.rs.length+l<ds.length:=by rw [h1];exact (Js.1 hs).1
 have hdl:=h2 _ _ _ hs (gE hlen);refine⟨ds[m.rs.length+l],gE hlen,hdl,?_⟩;have e1:(m.wr.map zB).getD l []=zB (zW m.base l):=by
  rw [gDe,KX,gE hlw,hw];rfl
 have e2:(ds.drop m.rs.length).getD l 0=ds[m.rs.length+l]:=by
  rw [gDe,Kz,gE hlen];rfl
 unfold chR;rw [e1,e2,gDe,gE hdl];rfl
theorem ChoiceW.co_dig (h:ChoiceW init Ps m) (hd:ds∈z6 (zG m)) (he:es∈z6 (zG m)) (hs:qM (zq m ds).co (zq m es).co=true) {l:Nat} (hl:l<init.length):ds[m.rs.length+l]?=es[m.rs.length+l]?:=by
 obtain⟨d,d1,d2,d3⟩:=h.dig_w hd hl;obtain⟨e,e1,e2,e3⟩:=h.dig_w he hl;obtain⟨c1,c2⟩:=h.chx he;have hlw:l<(m.wr.map zB).length:=by rw [QQ,h.wr.1];exact hl
 obtain⟨_,hb⟩:=zcV m.base.ev (m.wr.map zB) 0 (es.drop m.rs.length) (m.base.co,m.base.mem) c1 c2;have hr:zP (zq m ds) l=chR (m.wr.map zB) (es.drop m.rs.length) l:=by
  refine zfS (zer h) (h.ch he l hl).1 fun i hi j=>?_;have hi48:i<48:=by
   have:=zdt ((h.ch he l hl).1.subset hi);have:=h.n;rw [<- h.len] at this;omega
  have e:zL (zq m ds).co i j=zL (coG m.base.ev 0 (m.wr.map zB) (es.drop m.rs.length) (m.base.co,m.base.mem)).1 i j:=by
   unfold zL;rw [znM hs hi48];rfl
  rw [e,Bool.eq_iff_iff,hb,dE];constructor
  ·rintro (⟨k,a1,a2,a3⟩ | ⟨a1,a2⟩)
   ·have:=c2 i k l a1 hlw a2 hi;rw [<- this];exact a3
   ·exact Gs hi (a1 l hlw)
  ·exact fun hj => .inl ⟨l,hlw,hi,hj⟩
 rw [h.rank hd hl,d3,e3] at hr;obtain⟨g1,_⟩:=h.head hl;have h48:(zW m.base l).length<=48:=by
  have:=zfl m.base l;have:=h.n;have:=h.len;omega
 have:=(List.getElem_inj (zji (List.nodup_range.filter _) g1 h48)).1 hr;rw [d1,e1,this]
theorem ChoiceW.same (h:ChoiceW init Ps m) (hd:ds∈z6 (zG m)) (he:es∈z6 (zG m)) (hs:jV (zq m ds) (zq m es)=true):ds=es:=by
 obtain⟨_,h2,h3⟩:=zkn hs;have l1:=(zal hd).1;have l2:=(zal he).1;have hl:(zG m).length=m.rs.length+init.length:=by
  unfold zG;rw [lap,QQ,QQ,h.wr.1]
 refine KT fun t=>?_;by_cases ht:t<m.rs.length
 ·exact h.rf_dig hd he h2 ht
 ·by_cases ht2:t<m.rs.length+init.length
  ·have:=h.co_dig hd he h3 (l:=t-m.rs.length) (by omega);rw [show m.rs.length+(t-m.rs.length)=t by omega] at this;exact this
  ·rw [JM (by omega),JM (by omega)]
end
theorem zlS (before:Nat->Nat):∀ (s:List Nat) (n left:Nat) (l:List Nat),left<2^64->s.length<=n->s.Perm (els left)->(∀ A a t,s=A++a::t->∀ b∈a::t,(before a).testBit b=false)->l++s∈j6 before n left l
 | [],n,left,l,hl,hn,hp,hb=>by
  have h0:left=0:=zdg hl (by rw [Qu];exact List.nil_perm.1 hp);rw [QM]
  cases n <;> (unfold j6;rw [Gr h0];exact KD.2 rfl)
 | a::t,0,left,l,hl,hn,hp,hb=>by simp at hn
 | a::t,n+1,left,l,hl,hn,hp,hb=>by
  have ha:a∈els left:=hp.subset KC;have h0:left≠0:=fun e=>by rw [e,zaE] at ha;cases ha
  unfold j6;rw [Gq h0];refine List.mem_flatMap.2 ⟨a,ha,?_⟩;have hbl:before a&&&left=0:=by
   refine Ke fun i=>?_;rw [Ue,QG];by_cases hi:left.testBit i=true
   ·have hi64:i<64:=by
     refine QC fun h=>?_;rw [JK (nL hl (Kg (by decide) h))] at hi
     cases hi
    rw [hb [] a t rfl i (hp.symm.subset (zaC.2 ⟨hi64,hi⟩)),Ul]
   ·rw [Ql] at hi;rw [hi,Uk]
  rw [Gr hbl,za0];have hna:a ∉ t:=(QX.1 (hp.nodup_iff.2 (zdf left))).1;have hpt:t.Perm (els (qa left (2^a))):=by
   rw [zcT hl ha];have h1:=hp.filter fun i => !decide (i=a);rw [Qq,Gq (by simp),List.filter_eq_self.2 fun z hz=>by
    have:z≠a:=fun e=>hna (by rw [<- e];exact hz);simp [this]] at h1
   exact h1
  have h2:=zlS before t n (qa left (2^a)) (l++[a]) (qW hl) (by simpa using hn) hpt fun A c u e b hbm=>hb (a::A) c u (by rw [e];rfl) b hbm;rw [KS] at h2;exact h2
section
variable {n:Nat}
theorem zjR (hn:n<=48) {a b:Nat} (ha:a<n) (h:((zR (crs n)).to a).testBit b=true):b=0/\a≠0:=by
 have h1:=zdl (ziA hn) (i:=a) (j:=b) (by omega);unfold zL at h1;rw [h1,bAT] at h;obtain⟨hb,h⟩:=h;have hb:=dT hb;have h:(if b<n then (if Nat.testBit 1 b then jE (jO n) 1&&&jO n else 0) else 0).testBit a=true:=h;rw [Gr hb] at h
 split at h
 ·rename_i h2;have hb0:b=0:=by
   refine Nat.eq_zero_of_not_pos fun hp=>?_;rw [JK (show 1<2^b from Nat.one_lt_two_pow (by omega))] at h2
   cases h2
  refine⟨hb0,fun ha0=>?_⟩;rw [Ue,za0,bAT] at h;have e:qa (jO n) 1=qa (jO n) (2^0):=rfl;rw [e,zat (by decide) (by omega),ha0] at h;simp at h
 ·rw [QG] at h;cases h
theorem zp7 (hn:n<=48):zg2 (crs n)=true:=by
 rw [zqt (ziA hn)];intro S hS he;have hS64:S<2^64:=by
  refine KH ?_ (zaG (n:Int));rw [<- he];exact QA
 have hin:∀ i,S.testBit i=true->i<n:=fun i hi=>by
  have h1:i<64:=by
   refine QC fun h=>?_;rw [JK (nL hS64 (Kg (by decide) h))] at hi
   cases hi
  rw [<- he,Ue,bAT] at hi;rw [zbB (by omega) (by omega) h1] at hi;have:=dT hi.2;omega
 have free:∀ a,a<n->(∀ b,S.testBit b=true->b=0->a=0)->(zR (crs n)).to a&&&S=0:=fun a ha h=>by
  refine Ke fun i=>?_;rw [Ue,QG]
  cases h1:((zR (crs n)).to a).testBit i
  ·rfl
  ·obtain⟨h2,h3⟩:=zjR hn ha h1
   cases h4:S.testBit i
   ·rfl
   ·exact Gs (h i h4 h2) h3
 by_cases h0:S.testBit 0=true
 ·exact⟨0,zaC.2 ⟨by decide,h0⟩,free 0 (hin 0 h0) fun _ _ _=>rfl⟩
 ·have hne:els S≠[]:=fun e=>hS (zdg hS64 (by rw [e];rfl));obtain⟨a,t,hat⟩:=List.exists_cons_of_ne_nil hne;have ha:a∈els S:=by rw [hat];exact KC
  exact⟨a,ha,free a (hin a (zaC.1 ha).2) fun b hb hb0=>by rw [hb0] at hb;exact Gs hb h0⟩
theorem zpx (hn:n<=48) {o t:List Nat} (hp:o.Perm (List.range n)) (h0:o=0::t):o∈za5 (crs n):=by
 unfold za5;rw [Gr (zp7 hn)];have e:els (jO ((n:Nat):Int))=List.range n:=by rw [zan];exact zdh (by omega)
 have hl:=hp.length_eq;rw [KY] at hl;have:=zlS (zR (crs n)).to o 64 (jO ((n:Nat):Int)) [] (zdm n) (by omega) (by rw [e];exact hp) fun A a u he b hb=>?_
 ·exact this
 have hao:a∈o:=by rw [he];exact JQ _ KC
 cases h1:((zR (crs n)).to a).testBit b
 ·rfl
 ·obtain⟨h2,h3⟩:=zjR hn (Uq.1 (hp.subset hao)) h1;have hon:o.Nodup:=hp.nodup_iff.2 List.nodup_range
  cases A with
  | nil =>
   rw [h0,QW,QN] at he;exact Gs he.1.symm h3
  | cons c A =>
   rw [h0,Qo,QN] at he;rw [h0] at hon;have:(0:Nat)∈t:=by rw [he.2,<- h2];exact JQ _ hb
   exact Gs this (QX.1 hon).1
end
theorem zoj {w:List Nat} {x:Nat} (h:x∈w):w.getD (w.idxOf x) 0=x:=by
 have hl:=List.idxOf_lt_length_iff.2 h;rw [gDe,gE hl];exact List.getElem_idxOf hl
theorem zpE {w:List Nat} (hw:w.Nodup):w.map (fun x=>w.idxOf x)=List.range w.length:=by
 refine List.ext_getElem (by simp) fun i h1 h2=>?_;rw [Qt,KB];exact hw.idxOf_getElem i (by simpa using h1)
theorem znO {w rk:List Nat} (hn:w.length<=48) (hw:w.Nodup) (hf:fct (w.length-1)<=10000) (h1:1<=w.length) (hp:rk.Perm w) (hh:rk.headD 48=w.headD 48):rk∈zB w:=by
 unfold zB;dsimp only;rw [Gr (UO (zhu h1 hn) hf)];refine UL.2 ⟨rk.map (fun x=>w.idxOf x),?_,?_⟩
 ·cases w with
  | nil=>simp at h1
  | cons a w' =>
   cases rk with
   | nil=>simpa using hp.length_eq
   | cons b rk' =>
    have hh:b=a:=hh;subst hh;refine zpx hn (t:=rk'.map (fun x=>(b::w').idxOf x)) ?_ ?_
    ·rw [<- zpE hw];exact hp.map _
    ·rw [UD,List.idxOf_cons_self]
 ·rw [UJ]
  conv=>rhs;rw [<- List.map_id rk]
  exact Kn fun x hx=>zoj (hp.subset hx)
end Go.Proofs.YtpalcnbhkigagaaGreatDoor
