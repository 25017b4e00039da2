/- Contracts of functions, and plain facts, for the law that the last text of this claim proves. -/
import Derived.Test.YtkpaomeeknegpaaGreatDoorR4
import Derived.Test.YtkpaomeeknegpaaGreatDoorR2
import Derived.Test.YtkpaomeeknegpaaGreatDoorR3
import Derived.Test.YtkpaomeeknegpaaGreatDoorR1
set_option linter.unusedSimpArgs false
set_option linter.unusedVariables false
namespace Go.Proofs.YtkpaomeeknegpaaGreatDoor
open Go.Vc Go.RowKit Go.Sei
def ThG (l:List InsD):Prop:=l.length<=12/\∀ i x,l[i]?=some x->ExG x/\(x.op=8->x.skip.toNat<=l.length-1-i)
theorem zjI {x:InsD} {k n:Nat} (h:zig x k n=true):ExG x/\(x.op=8->x.skip.toNat<=n)/\(x.op=1\/x.op=2\/x.op=4\/x.op=5\/x.op=6->x.loc.toNat<k):=by
 unfold zig qX at h;simp only [UA,List.all_nil,id_eq,Bool.and_true,bAT,dE,QH] at h;obtain⟨⟨h1,h8⟩,-,hd,hl,⟨ha,hb⟩,-,-,hs⟩:=h;have arg:∀ {r:Bool} {n:UInt8},zjW r n=true->r=true->n.toNat<8:=fun {r n} h hr=>by
  subst hr;unfold zjW at h;simpa using h
 have ha:=arg ha;have hb:=arg hb;have key:∀ i,1<=i->i<=8->UInt8.ofNat i=1\/UInt8.ofNat i=2\/UInt8.ofNat i=3\/UInt8.ofNat i=4\/UInt8.ofNat i=5\/UInt8.ofNat i=6\/UInt8.ofNat i=7\/UInt8.ofNat i=8:=by
  intro i a b;have:i=1\/i=2\/i=3\/i=4\/i=5\/i=6\/i=7\/i=8:=by omega
  rcases this with e | e | e | e | e | e | e | e <;> subst e <;> decide
 have hop:=key x.op.toNat h1 h8;rw [UInt8.ofNat_toNat] at hop;refine⟨?_,fun e=>?_,fun e=>?_⟩
 ·unfold ExG;rcases hop with e | e | e | e | e | e | e | e
  ·exact .inl ⟨e,hd⟩
  ·exact .inr (.inl ⟨e,ha⟩)
  ·exact .inr (.inr (.inl ⟨e,hd,ha,hb⟩))
  ·exact .inr (.inr (.inr (.inl ⟨e,hd,ha⟩)))
  ·exact .inr (.inr (.inr (.inr (.inl ⟨e,hd,ha⟩))))
  ·exact .inr (.inr (.inr (.inr (.inr (.inl ⟨e,hd,ha,hb⟩)))))
  ·exact .inr (.inr (.inr (.inr (.inr (.inr (.inl e))))))
  ·exact .inr (.inr (.inr (.inr (.inr (.inr (.inr ⟨e,ha,hb⟩))))))
 ·rw [e] at hs;rcases hs with hs | hs
  ·exact Gs hs (by decide)
  ·exact hs.2
 ·rcases hl with hl | hl
  ·rcases e with e | e | e | e | e <;> rw [e] at hl <;> exact Gs hl (by decide)
  ·exact hl
theorem zlT {l:List InsD} {k:Nat} (h:qy l k=true):ThG l:=by
 unfold qy at h;rw [bAT,dE,Qj] at h;refine⟨h.1,fun i x hi=>?_⟩;have hil:i<l.length:=(Js.1 hi).1;have:=h.2 i (Uo.2 hil);rw [hi] at this;exact⟨(zjI this).1,(zjI this).2.1⟩
structure RunOk (l:List InsD) (R:RunD):Prop where
 m:R.many<=2*R.pc
 p:R.pc<=l.length
 s:RunS R
theorem zm5 (l:List InsD):RunOk l zkv:=⟨UY _,Gb _,ztq⟩
theorem ze2 {l:List InsD} {S:RunD} {x:InsD} {v:UInt8} (ht:ThG l) (h:RunOk l S) (hx:l[S.pc]?=some x):RunOk l (qs S x v)/\S.pc+1<=(qs S x v).pc:=by
 obtain⟨hx1,hx8⟩:=ht.2 _ _ hx;have hpl:S.pc<l.length:=(Js.1 hx).1;have hm:=h.m;have h12:=ht.1;have hs:=zom (v:=v) h.s (by omega) hx1;have fin:∀ T:RunD,ze5 S x v=T->T.many<=2*T.pc+2->S.pc<=T.pc->T.pc+1<=l.length->RunOk l (qs S x v)/\S.pc+1<=(qs S x v).pc:=fun T e h1 h2 h3=>by
  have e2:qs S x v={ T with pc:=T.pc+1 }:=by unfold qs;rw [e]
  refine⟨⟨?_,?_,hs⟩,?_⟩
  ·rw [e2];dsimp only;omega
  ·rw [e2];exact h3
  ·rw [e2];dsimp only;omega
 rcases hx1 with ⟨e,-⟩ | ⟨e,-⟩ | ⟨e,-⟩ | ⟨e,-⟩ | ⟨e,-⟩ | ⟨e,-⟩ | e | ⟨e,-⟩
 ·exact fin _ (qm.1 e) (show S.many+1<=2*S.pc+2 by omega) (UY _) hpl
 ·exact fin _ (qm.2.1 e) (show S.many+1<=2*S.pc+2 by omega) (UY _) hpl
 ·exact fin _ (qm.2.2.1 e) (show S.many<=2*S.pc+2 by omega) (UY _) hpl
 ·exact fin _ (qm.2.2.2.1 e) (show S.many+1+1<=2*S.pc+2 by omega) (UY _) hpl
 ·exact fin _ (qm.2.2.2.2.1 e) (show S.many+1+1<=2*S.pc+2 by omega) (UY _) hpl
 ·obtain⟨c1,c2,c3⟩:=zqP (R:=S) (x:=x) (v:=v);exact fin _ (qm.2.2.2.2.2.1 e) (by omega) (by omega) (by omega)
 ·exact fin _ (qm.2.2.2.2.2.2.1 e) (show S.many+1<=2*S.pc+2 by omega) (UY _) hpl
 ·obtain⟨c1,c2,c3⟩:=zm0 (R:=S) (x:=x);have h8:=hx8 e;have hge:S.pc<=(zb2 S x).pc:=by
   unfold zb2;dsimp only
   split
   ·exact Qy _ _
   ·exact UY _
  exact fin _ (qm.2.2.2.2.2.2.2 e) (by omega) hge (by omega)
theorem zou {x:InsD} (hx:ExG x):((x.op=1\/x.op=4\/x.op=5\/x.op=6)/\zcg x=true)\/((x.op≠1/\x.op≠4/\x.op≠5/\x.op≠6)/\zcg x=false):=by
 by_cases h:x.op=1\/x.op=4\/x.op=5\/x.op=6
 ·refine .inl ⟨h,?_⟩;unfold zcg;rcases h with e | e | e | e <;> rw [e] <;> rfl
 ·have h1:x.op≠1:=fun e=>h (.inl e);have h4:x.op≠4:=fun e=>h (.inr (.inl e));have h5:x.op≠5:=fun e=>h (.inr (.inr (.inl e)));have h6:x.op≠6:=fun e=>h (.inr (.inr (.inr e)));refine .inr ⟨⟨h1,h4,h5,h6⟩,?_⟩;unfold zcg;rw [Uh h1,Uh h4,Uh h5,Uh h6];rfl
section
variable {R:RunD} {b:Nat} {w:Wd} {l:List InsD} {q:OA} {cap:Nat}
theorem zg5 (f:jx w b R) (hl:SlR zD w q l) (hq:l≠[]->∀ a,q=some a->a.block≠b) (ht:ThG l) (hR:RunOk l R) :
  Calls PG 176 #[AtR b,.slice q l.length cap] w fun e w'=>e = .returned (.bool (l[(goR l l.length R).pc]?).isSome)/\jx w' b (goR l l.length R)/\w.grownBy w' (some b)/\RunOk l (goR l l.length R)/\R.pc<=(goR l l.length R).pc:=by
 refine zI 34 [AtR b,.slice q l.length cap] Tryz.func176 ?_;have h12:=ht.1;refine⟨RunD×Nat,fun s=>⟨[(0,AtR b),(1,.slice q l.length cap)],[]⟩,
  fun s X=>(goR l l.length R=goR l s.2 s.1/\l.length<=s.2+s.1.pc/\RunOk l s.1/\R.pc<=s.1.pc)/\jx X b s.1/\w.grownBy X (some b),fun s=>l.length-s.1.pc,(R,l.length),
  (cvE rfl rfl),⟨⟨rfl,by omega,hR,UY _⟩,f,qc w _⟩,?_⟩
 rintro⟨S,n⟩ X ⟨⟨he,hn,hS,hpp⟩,fX,gX⟩;dsimp only at he hn hS hpp fX ⊢;refine⟨_,zc (za fX) (i:=0) rfl,biE (fun hc=>?_) fun hc=>?_⟩
 ·have hc:(S.pc:Int)<(l.length:Int):=dT hc;have hi:S.pc<l.length:=by omega
  have hm:=hS.m;obtain⟨n,rfl⟩:∃ n',n=n'+1:=⟨n-1,by omega⟩;obtain⟨bq,oq,rfl,hlq,hat⟩:=(zog hl (hq (List.ne_nil_of_length_pos (by omega))) gX).at hi;have hg:l[S.pc]?=some l[S.pc]:=gE hi;have hxi:=(ht.2 _ _ hg).1;refine⟨_,zc (za fX) (i:=0) rfl,S.pc,rfl,hi,_,zc (hat S.pc hi) (i:=0) rfl,?_⟩;have no:∀ k:UInt8,l[S.pc].op≠k->decide (((l[S.pc].op).toNat:Int)=(k.toNat:Int))=false:=fun k hk=>Uh fun e=>hk (qr.1 e);rcases zou hxi with ⟨ho,hr⟩ | ⟨⟨o1,o4,o5,o6⟩,hr⟩
  ·have e1:goR l l.length R=S:=he.trans (zr5 hg hr _);have fin:∀ {u:Bool},u=true->(Ending.returned (.bool u)=Ending.returned (.bool (l[(goR l l.length R).pc]?).isSome)/\jx X b (goR l l.length R)/\w.grownBy X (some b)/\RunOk l (goR l l.length R)/\R.pc<=(goR l l.length R).pc):=fun hu=>by
    rw [e1,hg,hu];exact⟨rfl,fX,gX,hS,hpp⟩
   rcases ho with ho | ho | ho | ho
   ·exact brE (by rw [ho];rfl) (brE (by rw [ho];rfl) (fin rfl))
   ·exact brN (no 1 (by rw [ho];decide)) (brE (by rw [ho];rfl) (brE (by rw [ho];rfl) (fin rfl)))
   ·exact brN (no 1 (by rw [ho];decide)) (brN (no 4 (by rw [ho];decide)) (brE (by rw [ho];rfl) (brE (by rw [ho];rfl) (fin rfl))))
   ·exact brN (no 1 (by rw [ho];decide)) (brN (no 4 (by rw [ho];decide)) (brN (no 5 (by rw [ho];decide)) (brE (by rw [ho];rfl) (fin rfl))))
  ·refine brN (no 1 o1) (brN (no 4 o4) (brN (no 5 o5) (brN (no 6 o6) ⟨_,zc (za fX) (i:=0) rfl,S.pc,rfl,hi,zD.enc l[S.pc],rfl,hat S.pc hi,hlq,cmo (zhL (v:=0) fX hS.s (by omega) (by omega) hxi) ?_⟩)));rintro e Y ⟨rfl,fY,gY⟩;obtain⟨x1,x2⟩:=ze2 (v:=0) ht hS hg;exact⟨(qs S l[S.pc] 0,n),(cvE rfl rfl),⟨⟨he.trans (zr4 hg hr n),by dsimp only;omega,x1,by dsimp only;omega⟩,fY,zd gX gY⟩,by dsimp only;omega⟩
 ·have hc:¬ (S.pc:Int)<(l.length:Int):=dF hc;have hg:l[S.pc]?=none:=JK (by omega);have e1:goR l l.length R=S:=he.trans (zql hg _);rw [e1,hg];exact⟨rfl,fX,gX,hS,hpp⟩
end
structure RowN {α : Type} (E : Enc α) (n0 : Nat) (F : Nat → Prop) (X : Wd) (q : OA) (l : List α) : Prop where
  row : SlR E X q l
  out : l ≠ [] → ∀ a, q = some a → a.block < n0 ∧ ¬ F a.block
theorem RowN.keep {α : Type} {E : Enc α} {n0 : Nat} {F F' G : Nat → Prop} {X Y : Wd} {q : OA} {l : List α} (h : RowN E n0 F X q l) (hn : n0 ≤ X.heap.size) (k : KeepsG G F' X Y) (hG : ∀ k, k < n0 → G k → F k) : RowN E n0 F' Y q l := by
  by_cases hne : l = []
  · exact ⟨.inl hne, fun h => (h hne).elim⟩
  · have r : RowF E n0 F X q l := ⟨h.row, h.out hne⟩
    have r2 := r.keep hn k hG
    exact ⟨r2.row, fun _ => r2.out⟩
section
variable {yl n0 cap cd : Nat} {J Jx : List RunD → (Nat → Prop) → Wd → Prop} {xs : List RunD} {l : List InsD} {dom : List UInt8} {q p : OA}
theorem zoe (hJ : JG n0 (fun _ => False) J) (hn0 : ∀ pre F X, J pre F X → n0 ≤ X.heap.size) (hy : ∀ pre x vs F W1, J pre F W1 → StR (pre ++ [x]) vs W1 → (pre ++ [x]) <+: xs → YieldR PG yl vs.toArray W1 fun v W2 =>
      (v = .bool true ∧ ∃ F', J (pre ++ [x]) F' W2 ∧ KeepsG F F' W1 W2) ∨ (v = .bool false ∧ ∃ F', Jx (pre ++ [x]) F' W2)) (ht : ThG l) (hd : dom.length ≤ 1000) :
    ∀ (n : Nat) (S : RunD) (b : Nat) (pre : List RunD) (F : Nat → Prop) (X : Wd), l.length ≤ n + S.pc → RunOk l S → jx X b S → n0 ≤ b → ¬ F b → J pre F X → RowN zD n0 F X q l → RowF zV n0 F X p dom → (pre ++ z9 l dom n S) <+: xs →
      Calls PG 149 #[AtR b, .slice q l.length cap, .slice p dom.length cd, .func (.yield yl) #[] #[]] X fun e Y =>
        (e = .returned (.bool true) ∧ ∃ F', J (pre ++ z9 l dom n S) F' Y ∧ KeepsG (fun k => F k ∨ k = b) F' X Y) ∨ (e = .returned (.bool false) ∧ ∃ pre' F', pre' <+: xs ∧ Jx pre' F' Y) := by
  intro n
  induction n with
  | zero =>
    intro S b pre F X hn hS fX hb hFb hj hq hdm hpre
    refine jt (S := sg 41) (zbB _) (args := [AtR b, .slice q l.length cap, .slice p dom.length cd, .func (.yield yl) #[] #[]]) Tryz.func149 rfl rfl (JS rfl) rfl ?_
    have hpc : S.pc = l.length := by have := hS.p; omega
    have hg : l[S.pc]? = none := JK (by omega)
    have e1 : goR l l.length S = S := zql hg _
    refine Ge (zg5 fX hq.row (fun hne a ha => by have := (hq.out hne a ha).1; omega) ht hS) ?_
    rintro e Y ⟨rfl, fY, gY, _⟩
    rw [e1] at fY ⊢
    rw [hg]
    refine brT ?_
    have hjY := hJ.step _ _ _ _ hj (StepG.grown gY (.inl hb) hFb)
    have hs : z9 l dom 0 S = [S] := by show [goR l l.length S] = _; rw [e1]
    rw [hs] at hpre ⊢
    refine YieldR.mono (hy pre S [AtR b] F Y hjY ⟨S, b, by simp, rfl, fY⟩ hpre) ?_
    rintro v Z (⟨rfl, F', hJZ, hKZ⟩ | ⟨rfl, F', hJZ⟩)
    · exact .inl ⟨rfl, F', hJZ, (KeepsG.grown (F := fun k => F k ∨ k = b) gY (.inr rfl)).trans (hKZ.weak fun k h => .inl h)⟩
    · exact .inr ⟨rfl, _, F', hpre, hJZ⟩
  | succ n ih =>
    intro S b pre F X hn hS fX hb hFb hj hq hdm hpre
    refine jt (S := sg 41) (zbB _) (args := [AtR b, .slice q l.length cap, .slice p dom.length cd, .func (.yield yl) #[] #[]]) Tryz.func149 rfl rfl (JS rfl) rfl ?_
    obtain ⟨T, hT⟩ : ∃ T, T = goR l l.length S := ⟨_, rfl⟩
    refine Ge (zg5 fX hq.row (fun hne a ha => by have := (hq.out hne a ha).1; omega) ht hS) ?_
    rintro e Y ⟨rfl, fY, gY, tO, tpp⟩
    rw [← hT] at fY tO tpp ⊢
    have hjY := hJ.step _ _ _ _ hj (StepG.grown gY (.inl hb) hFb)
    have hXn := hn0 _ _ _ hj
    have kY : KeepsG (fun k => F k ∨ k = b) F X Y := ⟨gY.os, gY.tape, gY.output, gY.size, fun k hk hf => gY.block k hk (fun e => hf (.inr (by cases e; rfl))), fun k h => .inl (.inl h)⟩
    have hqY := hq.keep hXn kY (fun k hk h => h.resolve_right (by omega))
    have hdY := hdm.keep hXn kY (fun k hk h => h.resolve_right (by omega))
    cases hg : l[T.pc]? with
    | none =>
      refine brT ?_
      have hs : z9 l dom (n + 1) S = [T] := by
        show (match l[(goR l l.length S).pc]? with | none => [goR l l.length S] | some x => _) = _
        rw [← hT, hg]
      rw [hs] at hpre ⊢
      refine YieldR.mono (hy pre T [AtR b] F Y hjY ⟨T, b, by simp, rfl, fY⟩ hpre) ?_
      rintro v Z (⟨rfl, F', hJZ, hKZ⟩ | ⟨rfl, F', hJZ⟩)
      · exact .inl ⟨rfl, F', hJZ, kY.trans hKZ⟩
      · exact .inr ⟨rfl, _, F', hpre, hJZ⟩
    | some x =>
      have hi : T.pc < l.length := (Js.1 hg).1
      have hxe : l[T.pc] = x := by rw [Jv hi] at hg; exact Uf hg
      have hxi := (ht.2 _ _ hg).1
      refine brF ?_
      have hs : z9 l dom (n + 1) S = dom.flatMap fun v => z9 l dom n (qs T x v) := by
        show (match l[(goR l l.length S).pc]? with | none => [goR l l.length S] | some x => _) = _
        rw [← hT, hg]
      rw [hs] at hpre ⊢
      refine ⟨Nat × (Nat → Prop), fun s => ⟨[(0, AtR b), (1, .slice q l.length cap), (2, .slice p dom.length cd), (3, .func (.yield yl) #[] #[]), (19, .slice p dom.length cd), (20, i64 dom.length), (21, i64 (s.1 : Nat))], []⟩,
        fun s Z => s.1 ≤ dom.length ∧ J (pre ++ (dom.take s.1).flatMap fun v => z9 l dom n (qs T x v)) s.2 Z ∧ jx Z b T ∧ ¬ s.2 b ∧ RowN zD n0 s.2 Z q l ∧ RowF zV n0 s.2 Z p dom ∧ KeepsG (fun k => F k ∨ k = b) s.2 X Z, fun s => dom.length - s.1, (0, F),
        ⟨.cons rfl (.cons rfl (.cons rfl (.cons rfl (.cons rfl (.cons rfl (.cons rfl .nil)))))), rfl⟩, ⟨Gb _, by rw [Up]; show J (pre ++ []) F Y; rw [QK]; exact hjY, fY, hFb, hqY, hdY, kY⟩, ?_⟩
      clear fY gY hjY hqY hdY kY
      rintro ⟨k, G⟩ Z ⟨hk, hjZ, fZ, hGb, hqZ, hdZ, kZ⟩
      dsimp only at hk hjZ hGb hqZ hdZ kZ ⊢
      have hZn := hn0 _ _ _ hjZ
      refine Gi (fun hc => ?_) (fun hc => ?_)
      · have hc : (k : Int) < (dom.length : Int) := Qc hc
        have hkd : k < dom.length := by omega
        obtain ⟨bp, op, hpe, hlp, hatp⟩ := hdZ.row.at hkd
        have hqr := hqZ
        obtain ⟨bq, oq, hqe, hlq, hatq⟩ := hqZ.row.at hi
        have ep : some (Value.slice p dom.length cd) = some (Value.slice (some ⟨bp, op, none⟩) dom.length cd) := by rw [hpe]
        subst hpe
        refine ⟨k, rfl, hkd, ?_⟩
        refine ⟨u8 dom[k], by have := zc (hatp k hkd) (i := 0) (v := u8 dom[k]) rfl; exact this, ?_⟩
        refine ⟨qM T, jB _, za fZ, hlt fZ, ?_⟩
        refine zo (X := Z) (v := .agg (qM T).toArray) (jW.get 189 _ rfl) (jB _) zn5 (zpH _) fun V hbV fV sV => ?_
        subst hqe
        have fV : jx V Z.heap.size T := fV
        refine ⟨_, zc (za fV) (i := 0) rfl, ?_⟩
        refine ⟨T.pc, rfl, hi, ?_⟩
        refine ⟨zD.enc x, rfl, by rw [← hxe]; exact zq hbV (hatq T.pc hi), KF hlq hbV.size, ?_⟩
        refine Ge (zhL (v := dom[k]) fV tO.s (by have := tO.m; have := ht.1; omega) (by have := ht.1; omega) hxi) ?_
        rintro e U ⟨rfl, fU, gU⟩
        obtain ⟨x1, x2⟩ := ze2 (v := dom[k]) ht tO hg
        have hGn : ¬ G Z.heap.size := fun h => by have := (hJ.lt _ _ _ _ hjZ h).1; omega
        have hjU := hJ.step _ _ _ _ (hJ.step _ _ _ _ hjZ (StepG.below hbV)) (StepG.grown gU (.inl hZn) hGn)
        have hbU : Below Z.heap.size Z U := hbV.trans (zk gU hbV.size (UY _))
        have kU : KeepsG G G Z U := KeepsG.below hbU fun k h => .inl h
        have hqU := hqr.keep hZn kU (fun k _ h => h)
        have hdU := hdZ.keep hZn kU (fun k _ h => h)
        have hdk : dom.flatMap (fun v => z9 l dom n (qs T x v)) = (dom.take k).flatMap (fun v => z9 l dom n (qs T x v)) ++ (z9 l dom n (qs T x dom[k]) ++ (dom.drop (k + 1)).flatMap fun v => z9 l dom n (qs T x v)) := by
          have e : dom = dom.take k ++ dom[k] :: dom.drop (k + 1) := by rw [JF, JQ]
          have e2 : (dom.take k ++ dom[k] :: dom.drop (k + 1)).flatMap (fun v => z9 l dom n (qs T x v)) = (dom.take k).flatMap (fun v => z9 l dom n (qs T x v)) ++ (z9 l dom n (qs T x dom[k]) ++ (dom.drop (k + 1)).flatMap fun v => z9 l dom n (qs T x v)) := by
            rw [Kg, KS]
          rw [← e] at e2
          exact e2
        have hpk : ((pre ++ (dom.take k).flatMap fun v => z9 l dom n (qs T x v)) ++ z9 l dom n (qs T x dom[k])) <+: xs := by
          refine List.IsPrefix.trans ?_ hpre
          rw [hdk]
          exact ⟨(dom.drop (k + 1)).flatMap fun v => z9 l dom n (qs T x v), by simp only [KO]⟩
        have htk : (dom.take (k + 1)).flatMap (fun v => z9 l dom n (qs T x v)) = (dom.take k).flatMap (fun v => z9 l dom n (qs T x v)) ++ z9 l dom n (qs T x dom[k]) := by
          rw [Jd hkd, Kg, KS, Qp, QK]
        refine Ge (ih (qs T x dom[k]) Z.heap.size (pre ++ (dom.take k).flatMap fun v => z9 l dom n (qs T x v)) G U (by omega) x1 fU hZn hGn hjU hqU hdU hpk) ?_
        rintro e V' (⟨rfl, F', hjV, kV⟩ | ⟨rfl, pre', F', hp', hjx⟩)
        · refine brF ?_
          have kW : KeepsG G F' Z V' := ⟨kV.os.trans kU.os, kV.tape.trans kU.tape, kV.output.trans kU.output, UO kU.size kV.size, fun i hi hf => (kV.same i (KF hi kU.size) (fun h => by
            rcases h with h | h
            · exact hf h
            · omega)).trans (kU.same i hi hf), fun i h => by
            have := kU.size
            rcases kV.fp i h with (h2 | h2) | h2
            · exact .inl h2
            · exact .inr (by omega)
            · exact .inr (by omega)⟩
          have hbZ := hlt fZ
          refine ⟨((k + 1 : Nat) : Int), (ze (by omega)).trans (by omega), ?_⟩
          refine ⟨(k + 1, F'), ⟨.cons rfl (.cons rfl (.cons rfl (.cons rfl (.cons rfl (.cons rfl (.cons rfl .nil)))))), rfl⟩, ⟨hkd, ?_, (kW.same b hbZ hGb).trans fZ, fun h => ?_, hqr.keep hZn kW (fun _ _ h => h), hdZ.keep hZn kW (fun _ _ h => h), kZ.trans kW⟩, by show dom.length - (k + 1) < dom.length - k; omega⟩
          · show J (pre ++ (dom.take (k + 1)).flatMap fun v => z9 l dom n (qs T x v)) F' V'
            rw [htk, ← KO]
            exact hjV
          · rcases kW.fp b h with h2 | h2
            · exact hGb h2
            · omega
        · refine brT ?_
          exact .inr ⟨rfl, pre', F', hp', hjx⟩
      · have hc : ¬ (k : Int) < (dom.length : Int) := KI hc
        obtain rfl : k = dom.length := by omega
        rw [Qw] at hjZ
        exact .inl ⟨rfl, G, hjZ, kZ⟩
theorem zjK {bi bd : Nat} {W0 : Wd} (hl : SlR zD W0 q l) (hp : SlR zV W0 p dom) (fi : W0.heap[bi]? = some (.cells #[.slice q l.length cap] 51 (0, 0))) (fd : W0.heap[bd]? = some (.cells #[.slice p dom.length cd] 23 (0, 0))) (hql : l ≠ [] → ∀ a, q = some a → a.block < W0.heap.size) (hpl : ∀ a, p = some a → a.block < W0.heap.size) (ht : ThG l) (hd : dom.length ≤ 1000) :
    zi4 PG 148 [AtR bi, AtR bd] (qC l dom) W0 (fun k => (k = bi ∨ k = bd) ∨ (l ≠ [] ∧ ∃ a, q = some a ∧ k = a.block) ∨ ∃ a, p = some a ∧ k = a.block) (fun _ => False) StR := by
  intro yl F0 J Jx W hsz hrd hrf hJ hJx hy h0
  refine jt (S := sg 9) (zbB _) (args := [.func (.yield yl) #[] #[], AtR bi, AtR bd]) Tryz.func148 rfl rfl (JS rfl) rfl ?_
  obtain ⟨X, hX⟩ : ∃ X, X = W.alloc (.cells (qM zkv).toArray 189) := ⟨_, rfl⟩
  have hbX : Below W.heap.size W X := by rw [hX]; exact (Gd _ W).alloc (UY _) _
  have fX : jx X W.heap.size zkv := by rw [hX]; exact zu W _
  have ez : zmT = qM zkv := by kernel_rfl
  have hX' : W.alloc (.cells (zmT).toArray 189) = X := by rw [hX, ez]
  have fiW := (hrd bi (.inl (.inl (.inl rfl)))).trans fi
  have fdW := (hrd bd (.inl (.inl (.inr rfl)))).trans fd
  have hjX := hJ.step _ _ _ _ h0 (StepG.below hbX)
  have hF : ¬ F0 W.heap.size := fun h => by have := (hJ.lt _ _ _ _ h0 h).1; omega
  have hlX : RowN zD W.heap.size F0 X q l := by
    by_cases hne : l = []
    · exact ⟨.inl hne, fun h => (h hne).elim⟩
    · exact ⟨jf hl fun a ha => (hbX.block _ (by have := hql hne a ha; omega)).trans (hrd _ (.inl (.inr (.inl ⟨hne, a, ha, rfl⟩)))), fun _ a ha => ⟨by have := hql hne a ha; omega, hrf _ (.inr (.inl ⟨hne, a, ha, rfl⟩))⟩⟩
  have hpX : RowF zV W.heap.size F0 X p dom := ⟨jf hp fun a ha => (hbX.block _ (by have := hpl a ha; omega)).trans (hrd _ (.inl (.inr (.inr ⟨a, ha, rfl⟩)))), fun a ha => ⟨by have := hpl a ha; omega, hrf _ (.inr (.inr ⟨a, ha, rfl⟩))⟩⟩
  refine ⟨_, by rw [hX']; exact zc (za (zb hbX fiW)) (i := 0) rfl, ?_⟩
  refine ⟨_, by rw [hX']; exact zc (za (zb hbX fdW)) (i := 0) rfl, ?_⟩
  rw [hX']
  have hJn : JG W.heap.size (fun _ => False) (fun pre F Z => J pre F Z ∧ W.heap.size ≤ Z.heap.size) := ⟨fun s F A B ⟨h, hn⟩ hs => ⟨hJ.step _ _ _ _ h hs, UO hn hs.size⟩, fun s F A k ⟨h, _⟩ hk => hJ.lt _ _ _ _ h hk⟩
  refine Ge (zoe (xs := qC l dom) (Jx := Jx) hJn (fun _ _ _ h => h.2) (fun pre x vs F W1 ⟨hj, hn⟩ hst hpre => YieldR.mono (hy pre x vs F W1 hj hst hpre) fun v W2 h => ?_) ht hd l.length zkv W.heap.size [] F0 X (UY _) (zm5 l) fX (UY _) hF ⟨hjX, hbX.size⟩ hlX hpX (List.prefix_refl _)) ?_
  · rcases h with ⟨rfl, F', h1, h2⟩ | h
    · exact .inl ⟨rfl, F', ⟨h1, UO hn h2.size⟩, h2⟩
    · exact .inr h
  · rintro e Y (⟨rfl, F', ⟨hj, _⟩, _⟩ | ⟨rfl, pre', F', h1, h2⟩)
    · exact ⟨⟨_, rfl⟩, .inl ⟨F', hj⟩⟩
    · exact ⟨⟨_, rfl⟩, .inr ⟨pre', F', h1, h2⟩⟩
end
theorem zmr {l:List InsD} (ht:ThG l):∀ (n:Nat) (S:RunD),RunOk l S->RunOk l (goR l n S)
 | 0,S,h=>h
 | n+1,S,h=>by
  show RunOk l (match l[S.pc]? with | none=>S | some x=>if zcg x then S else goR l n (qs S x 0))
  cases hg:l[S.pc]? with
  | none=>exact h
  | some x =>
   dsimp only
   split
   ·exact h
   ·exact zmr ht n _ (ze2 ht h hg).1
theorem zgP {l:List InsD} (ht:ThG l) (dom:List UInt8):∀ (n:Nat) (S:RunD),RunOk l S->∀ R∈z9 l dom n S,RunOk l R
 | 0,S,h,R,hR=>by
  have hR:R∈[goR l l.length S]:=hR;rw [KA] at hR;rw [hR];exact zmr ht _ _ h
 | n+1,S,h,R,hR=>by
  have hT:=zmr ht l.length S h;have hR:R∈(match l[(goR l l.length S).pc]? with | none=>[goR l l.length S] | some x=>dom.flatMap fun v=>z9 l dom n (qs (goR l l.length S) x v)):=hR
  cases hg:l[(goR l l.length S).pc]? with
  | none =>
   rw [hg] at hR;have hR:=KA.1 hR;rw [hR];exact hT
  | some x =>
   rw [hg] at hR;obtain⟨v,-,hv⟩:=List.mem_flatMap.1 hR;exact zgP ht dom n _ (ze2 ht hT hg).1 R hv
theorem zqz {l:List InsD} (ht:ThG l) (dom:List UInt8):∀ R∈qC l dom,RunOk l R:=zgP ht dom _ _ (zm5 l)
theorem zgB {l:List InsD} (ht:ThG l) (dom:List UInt8):∀ R∈qC l dom,R.many<=24/\∀ i,R.data i<2^32/\R.ctrl i<2^32/\R.att i<2^32:=fun R hR=>by
 have h:=zqz ht dom R hR;have h1:=h.m;have h2:=h.p;have h3:=ht.1;exact⟨by omega,fun i=>h.s.s i⟩
section
variable {l:List InsD} {vals:List UInt8} {q p:OA} {cap cd:Nat} {w:Wd}
theorem zq9 (hl:SlR zD w q l) (hp:SlR zV w p vals) (hv1:1<=vals.length) (hvm:vals.length<=60000) (hok:qy l 6=true) (hG:GlobE w) (hqb:l≠[]->∀ a,q=some a->a.block<w.heap.size) :
  Calls PG 74 #[.slice q l.length cap,.slice p vals.length cd,i64 4096] w fun e w'=>((∃ (xs:List zdz) (p':OA) (c':Nat),(qC l (jn vals)).length<=4096/\e = .returned (.tuple #[.slice p' xs.length c',i64 0])/\xs.map (·.1)=(qC l (jn vals)).map zas/\OwnS jX 138 w.heap.size w' p' c' xs/\∀ x∈xs,PthO w.heap.size w' x)\/(4096<(qC l (jn vals)).length/\e = .returned (.tuple #[.slice none 0 0,i64 5])))/\Bw w w':=by
 have ht:=zlT hok;have h12:l.length<=12:=ht.1;refine qj 45 [.slice q l.length cap,.slice p vals.length cd,i64 4096] (.c .p (.s .p (.c .p (.c .p (.c .p (.c .p .p)))))) Tryz.func74 ?_;obtain⟨L,hL⟩:=nm (w.heap.size);refine⟨Unit,fun _=>⟨[(0,.slice q l.length cap),(1,.slice p vals.length cd),(5,AtR L),(6,AtR (L+1)),(7,AtR (L+2))],[]⟩,fun _ X=>X.heap[L]?=some (.cells #[i64 4096] 3 (0,0))/\X.heap[L+1]?=some (.cells #[.slice none 0 0] 130 (0,0))/\X.heap[L+2]?=some (.cells #[i64 0] 56 (0,0))/\X.heap.size=L+3/\Bw w X,?_,?_⟩
 ·have s1:=wz w (.cells #[i64 4096] 3);have h2:=zu (w.alloc (.cells #[i64 4096] 3)) (.cells #[.slice none 0 0] 130);have s2:=wz (w.alloc (.cells #[i64 4096] 3)) (.cells #[.slice none 0 0] 130);have h3:=zu ((w.alloc (.cells #[i64 4096] 3)).alloc (.cells #[.slice none 0 0] 130)) (.cells #[i64 0] 56);have s3:=wz ((w.alloc (.cells #[i64 4096] 3)).alloc (.cells #[.slice none 0 0] 130)) (.cells #[i64 0] 56);rw [s1] at h2 s2;rw [s2] at h3 s3;refine⟨(),⟨.cons rfl (.cons rfl (.cons (by rw [hL];rfl) (.cons (by rw [hL,<- s1];rfl) (.cons (by rw [hL,<- s2];rfl) .nil)))),rfl⟩,?_,?_,?_,?_,?_⟩
  ·rw [hL];exact qB _ (qB _ (zu w _))
  ·rw [hL];exact qB _ h2
  ·rw [hL];exact h3
  ·rw [hL];exact s3
  ·exact (((zba w _)).alloc (by simp) _).alloc (by simp;omega) _
 rintro _ X ⟨f0,f1,f2,sX,hbX⟩;refine⟨_,zc (za f0) (i:=0) rfl,brF ⟨_,zc (za f0) (i:=0) rfl,brF (cmo (zro (hl.below hbX) (hG.c.below hbX) (by omega)) ?_)⟩⟩;rintro e Y ⟨rfl,hbY⟩;rw [hok];refine brF ?_;have hwY:=zst hbX hbY;have f0:=zb hbY f0;have f1:=zb hbY f1;have f2:=zb hbY f2;have sY:=hbY.size;obtain⟨D,hD⟩:=nm (jn vals);have hdl:D.length<=256:=by rw [hD];exact zdQ vals
 have hR:∀ R∈qC l D,R.many<=24/\zuV R:=fun R h=>⟨(zgB ht D R h).1,fun i _=>(zgB ht D R h).2 i⟩;rw [<- hD];refine⟨OA×Nat,fun s=>⟨[(0,.slice q l.length cap),(1,.slice s.1 D.length s.2),(5,AtR L),(6,AtR (L+1)),(7,AtR (L+2))],[]⟩,fun s Z=>OwnS zV 5 (L+3) Z s.1 s.2 D/\Bw Y Z,?_,?_⟩
 ·refine cmo (zds (hp.below hwY) hv1 hvm) ?_;rintro e Z ⟨⟨d,cc,rfl,ho⟩,hbZ⟩;rw [<- hD] at ho;exact⟨(d,cc),⟨.cons rfl (.cons (by rw [hD];rfl) (.cons rfl (.cons rfl (.cons rfl .nil)))),rfl⟩,OwnS.lower ho (by omega),hbZ⟩
 rintro⟨d,cc⟩ Z ⟨oD,hbZ⟩;dsimp only at oD ⊢;have hwZ:=zst hwY hbZ;have f0:=zb hbZ f0;have f1:=zb hbZ f1;have f2:=zb hbZ f2;have sZ:=hbZ.size;obtain⟨N,hN⟩:=nm (Z.heap.size);refine⟨Unit,fun _=>⟨[(0,.slice q l.length cap),(1,.slice d D.length cc),(5,AtR L),(6,AtR (L+1)),(7,AtR (L+2)),(8,AtR N)],[]⟩,fun _ V=>V.heap[N]?=some (.cells [i64 0].toArray 3 (0,0))/\V.heap.size=N+1/\Bw Z V,?_,?_⟩
 ·exact zo (X:=Z) (v:=i64 0) k3 rfl rfl rfl fun V hbV fV sV=>⟨(),⟨.cons rfl (.cons rfl (.cons rfl (.cons rfl (.cons rfl (.cons (by rw [hN];rfl) .nil))))),rfl⟩,by rw [hN];exact fV,by rw [hN];exact sV,hbV⟩
 rintro _ V ⟨fN,sV,hbV⟩;have hwV:=zst hwZ hbV;have f0:=zb hbV f0;have f1:=zb hbV f1;have f2:=zb hbV f2;have dlt:∀ a,d=some a->a.block<N:=fun a ha=>by rw [hN];exact (zaJ oD ha).2.1
 have oD:=oD.below hbV;have hNZ:w.heap.size<=N:=by rw [hN];exact hwZ.size
 have hNL:L+3<=N:=by omega
 obtain⟨xs0,hxs0⟩:=nm (qC l D);rw [<- hxs0] at hR ⊢;have dge:∀ a,d=some a->L+3<=a.block:=fun a ha=>(zaJ oD ha).1;refine⟨Nat,fun D1=>⟨[(0,.slice q l.length cap),(1,.slice d D.length cc),(5,AtR L),(6,AtR (L+1)),(7,AtR (L+2)),(8,AtR N)],[{ target := .collected D1,args := #[] }]⟩,fun D1 U=>xs0.length<=4096/\U.heap[N]?=some (.cells #[i64 xs0.length] 3 (0,0))/\U.heap[D1]?=some (.deferred (some []))/\N<D1/\V.grownBy U (some N),?_,?_⟩
 ·refine cmo zjL ?_;rintro e W ⟨rfl,fi,fd,sW,hbW⟩;have hwW:=zst hwV hbW;have fNW:=zb hbW fN;have f0W:=zb hbW f0;have f1W:=zb hbW f1;have f2W:=zb hbW f2;have qlt:l≠[]->∀ a,q=some a->a.block<w.heap.size:=hqb;have hI:=zjK (q:=q) (p:=d) (hl.below hwW) (oD.below hbW).row fi fd (fun hne a ha=>by have:=qlt hne a ha;have:=hwW.size;omega) (fun a ha=>by have:=dlt a ha;omega) ht (by omega);rw [<- hxs0] at hI;obtain⟨F0,hF0⟩:∃ F0:Nat->Prop,F0=fun k=>k=N\/k=L+1\/k=L+2:=⟨_,rfl⟩;refine zdg (zbB _) rfl (lb := #[AtR V.heap.size,AtR (V.heap.size+1)]) rfl rfl hI (UY _) (fun k hk=>⟨?_,rfl⟩) (fun pre vs W ⟨R,b,_,h,_⟩=>by rw [h];rfl) (by decide)
   F0 (fun pre F Y=>F=F0/\W.heap.size<=Y.heap.size/\pre.length<=4096/\Y.heap[N]?=some (.cells [i64 pre.length].toArray 3 (0,0))/\W.grownBy Y (some N))
   (fun ex pre F Y=>F=F0/\W.heap.size<=Y.heap.size/\ex = .ret/\4096<xs0.length/\Y.heap[L+1]?=some (.cells #[.slice none 0 0] 130 (0,0))/\Y.heap[L+2]?=some (.cells #[i64 5] 56 (0,0))/\Below L W Y) (fun k hk=>?_)
   (joG (F:=F0) (J:=fun (pre:List RunD) Y=>W.heap.size<=Y.heap.size/\pre.length<=4096/\Y.heap[N]?=some (.cells [i64 pre.length].toArray 3 (0,0))/\W.grownBy Y (some N)) (fun k h=>by rw [hF0] at h;omega) (fun s A h=>h.1) (fun pre A B ⟨h1,h2,h3,h4⟩ hb=>⟨UO h1 hb.size,h2,jo hb (by omega) h3,jq h4 hb⟩))
   (fun ex=>joG (F:=F0) (J:=fun (pre:List RunD) Y=>W.heap.size<=Y.heap.size/\ex = .ret/\4096<xs0.length/\Y.heap[L+1]?=some (.cells #[.slice none 0 0] 130 (0,0))/\Y.heap[L+2]?=some (.cells #[i64 5] 56 (0,0))/\Below L W Y) (fun k h=>by rw [hF0] at h;omega) (fun s A h=>h.1) (fun pre A B ⟨h1,h2,h3,h4,h5,h6⟩ hb=>⟨UO h1 hb.size,h2,h3,jo hb (by omega) h4,jo hb (by omega) h5,h6.trans (hb.mono (by omega))⟩))
   ⟨rfl,UY _,Gb _,fNW,qc _ _⟩ ?_ ?_ ?_
  ·rcases hk with ((rfl | rfl) | ⟨hne,a,ha,rfl⟩ | ⟨a,ha,rfl⟩) | h
   ·omega
   ·omega
   ·have:=qlt hne a ha;have:=hwW.size;omega
   ·have:=dlt a ha;omega
   ·exact h.elim
  ·rw [hF0];rcases hk with (rfl | rfl) | ⟨hne,a,ha,rfl⟩ | ⟨a,ha,rfl⟩
   ·omega
   ·omega
   ·have:=qlt hne a ha;omega
   ·have:=dlt a ha;have:=dge a ha;omega
  ·rintro yl pre x vs F Y hyl hpre hJ ⟨R',b',_,rfl,_⟩ hfy hlo;refine⟨rfl,F,KeepsG.refl _ _,hJ,?_⟩;rintro o Y2 hY2 ⟨rfl,h1,h4,h2,h3⟩;have hpl:pre.length<xs0.length:=by
    obtain⟨t,ht⟩:=hpre;rw [<- ht];simp only [lap,Qs];omega
   have g0:Y2.heap[L]?=some (.cells #[i64 4096] 3 (0,0)):=(h3.block L (hlt f0W) (by simp;omega)).trans f0W;refine⟨_,zc (za h2) (i:=0) rfl,_,zc (za g0) (i:=0) rfl,biE (fun hc=>?_) fun hc=>?_⟩
   ·have hc:(pre.length:Int)=4096:=dT hc;have g1:Y2.heap[L+1]?=some (.cells #[.slice none 0 0] 130 (0,0)):=(h3.block (L+1) (hlt f1W) (by simp;omega)).trans f1W;have g2:Y2.heap[L+2]?=some (.cells #[i64 0] 56 (0,0)):=(h3.block (L+2) (hlt f2W) (by simp;omega)).trans f2W;refine zn zqg g1 (o:=0) (v := .slice none 0 0) rfl rfl (by show 0<1;decide) rfl fun Z1 fZ1 gZ1 sZ1=>?_;have g2':=(gZ1.block (L+2) (hlt g2) (by simp)).trans g2;exact zn k56 g2' (o:=0) (v:=i64 5) rfl rfl (by show 0<1;decide) rfl fun Z2 fZ2 gZ2 sZ2=>⟨F,⟨rfl,by omega,rfl,by omega,(gZ2.block (L+1) (hlt fZ1) (by simp)).trans fZ1,fZ2,gZ2.os.trans (gZ1.os.trans h3.os),gZ2.tape.trans (gZ1.tape.trans h3.tape),gZ2.output.trans (gZ1.output.trans h3.output),by omega,fun k hk=>(gZ2.block k (by omega) (by simp;omega)).trans ((gZ1.block k (by omega) (by simp;omega)).trans (h3.block k (by omega) (by simp;omega)))⟩,(KeepsG.grown (F:=F) gZ1 (by rw [hF0];exact .inr (.inl rfl))).trans (KeepsG.grown (F:=F) gZ2 (by rw [hF0];exact .inr (.inr rfl)))⟩
   ·have hc:¬ (pre.length:Int)=4096:=dF hc;refine⟨_,zc (za h2) (i:=0) rfl,((pre.length+1:Nat):Int),(ze (by omega)).trans (by omega),zn k3 h2 (o:=0) (v:=i64 (pre.length+1:Nat)) rfl rfl (by show 0<1;decide) rfl fun Z fZ gZ sZ=>⟨_,⟨rfl,by omega,by rw [lap];show pre.length+1<=4096;omega,?_,zd h3 gZ⟩,KeepsG.grown (F:=F) gZ (by rw [hF0];exact .inl rfl)⟩⟩;rw [lap];exact fZ
  ·rintro D1 F Y hD hfD ⟨rfl,h1,h4,h2,h3⟩ hdef;refine⟨D1,(cvE rfl rfl),h4,h2,hdef,by omega,?_⟩;exact zd (zi hbW) h3
  ·rintro D ex pre F Y hD hfD hpre ⟨rfl,h1,rfl,hlong,g1,g2,hbY⟩ hdef;refine⟨_,rfl,hdef,.slice none 0 0,zc (za ((zj (by omega)).trans g1)) (i:=0) rfl,i64 5,zc (za ((zj (by omega)).trans g2)) (i:=0) rfl,.inr ⟨hlong,rfl⟩,?_⟩;have hwY:=hwW.trans (hbY.mono (by omega));exact qP hwY (by have:=hwV.size;omega) _
 clear fN sV;rintro D1 U ⟨hm,fN,fD1,hND,gU⟩;have old:∀ {k:Nat} {o:Obj},k≠N->V.heap[k]?=some o->U.heap[k]?=some o:=fun {k o} hne h=>(gU.block k (hlt h) (by simpa using hne)).trans h;have sU:=gU.size;have hNV:=hbV.size;have f1:=old (by omega) f1;have f2:=old (by omega) f2;have oD:OwnS zV 5 (L+3) U d cc D:=oD.kept gU fun g hg e=>by
  have:g<N:=dlt _ hg;simp only [KZ] at e;omega
 have hwU:Bw w U:=hwV.trans ⟨gU.os,gU.tape,gU.output,gU.size,fun k hk=>gU.block k (by have:=hwV.size;omega) (by simp;omega)⟩;clear f0 old gU hbV hwV;obtain⟨M,hM⟩:=nm (U.heap.size);have hDU:=hlt fD1;refine⟨OA×Nat,fun s=>⟨[(0,.slice q l.length cap),(1,.slice d D.length cc),(6,AtR (L+1)),(7,AtR (L+2)),(9,AtR (M+1))],[{ target := .collected D1,args := #[] }]⟩,fun s Z=>Z.heap[M+1]?=some (.cells [.slice s.1 0 s.2].toArray 130 (0,0))/\OwnS jX 138 M Z s.1 s.2 []/\(∀ a,s.1=some a->a.block=M)/\Z.heap.size=M+2/\Bw U Z,?_,?_⟩
 ·refine⟨_,zc (za fN) (i:=0) rfl,zdk (E:=jX) Tryz.underlying130 zoK rfl rfl rfl xs0.length (by show 104*_<=_;omega) (by unfold maxLen;omega) fun Z oZ hbZ' sZ'=>zo (X:=Z) (v := .slice (some ⟨U.heap.size,0,none⟩) 0 xs0.length) zqg rfl rfl rfl fun Z2 hbZ2 fZ2 sZ2=>?_⟩;rw [<- hM] at oZ sZ';rw [sZ'] at fZ2 sZ2;refine⟨(some ⟨M,0,none⟩,xs0.length),⟨.cons rfl (.cons rfl (.cons rfl (.cons rfl (.cons (by rw [<- sZ'];rfl) .nil)))),rfl⟩,by rw [hM] at fZ2 ⊢;exact fZ2,oZ.below hbZ2,fun a ha=>by cases ha;rfl,sZ2,hbZ'.trans (hbZ2.mono hbZ'.size)⟩
 clear fN;rintro⟨p0,c0⟩ V ⟨fV,oV,p0M,sV,hbV⟩;dsimp only at fV oV p0M;have f1:=zb hbV f1;have f2:=zb hbV f2;have fD1:=zb hbV fD1;have oD:=oD.below hbV;have hwV:=zst hwU hbV;have hMU:w.heap.size<=M:=by rw [hM];exact hwU.size
 have dlt2:∀ a,d=some a->a.block<N:=dlt;refine cmo zjL ?_;rintro e W ⟨rfl,fi,fd,sW,hbW⟩;have hwW:=zst hwV hbW;have hVM:Bw V W:=hbW;have hI:=zjK (q:=q) (p:=d) (hl.below hwW) (oD.below hbW).row fi fd (fun hne a ha=>by have:=hqb hne a ha;have:=hwW.size;omega) (fun a ha=>by have:=dlt a ha;omega) ht (by omega);rw [<- hxs0] at hI;refine zdg (zbB _) rfl (lb := #[AtR V.heap.size,AtR (V.heap.size+1)]) rfl rfl hI (UY _) (fun k hk=>⟨?_,rfl⟩) (fun pre vs W ⟨R,b,_,h,_⟩=>by rw [h];rfl) (by decide)
  (fun k=>k=M+1\/k=M) (JPa M W.heap.size (M+1) W) (fun _ _ _ _=>False) (fun k hk=>?_)
  (JPa.iter (by omega) rfl) (fun ex=>⟨fun _ _ _ _ h=>h.elim,fun _ _ _ _ h=>h.elim⟩) ⟨⟨UY _,.inl rfl,fun k hk=>by omega⟩,⟨[],p0,c0,zb hbW fV,⟨oV.below hbW,fun a ha => .inr (p0M a ha)⟩,rfl,fun x hx=>(by cases hx)⟩,Gd _ _⟩ ?_ ?_ ?_
 ·rcases hk with ((rfl | rfl) | ⟨hne,a,ha,rfl⟩ | ⟨a,ha,rfl⟩) | h
  ·omega
  ·omega
  ·have:=hqb hne a ha;have:=hwW.size;omega
  ·have:=dlt a ha;omega
  ·exact h.elim
 ·rcases hk with (rfl | rfl) | ⟨hne,a,ha,rfl⟩ | ⟨a,ha,rfl⟩
  ·omega
  ·omega
  ·have:=hqb hne a ha;omega
  ·have:=dlt a ha;omega
 ·rintro yl pre x vs F Y hyl hpre hJ ⟨R,b,hlast,rfl,fR⟩ hfy ⟨lo,hlo⟩;have hxR:x=R:=by simpa using hlast
  subst hxR;refine⟨rfl,F,KeepsG.refl _ _,hJ,?_⟩;rintro o Y2 hY2 ⟨⟨h1,h2,h3⟩,⟨xs,p,c,h4,h5,h6,h7⟩,h8⟩;have hbl:b≠yl:=fun e=>by
   rw [e] at fR;rw [fR] at hlo
   cases hlo
  have fR2:jx Y2 b x:=by rw [hY2];exact (zj hbl).trans fR
  have hmem:x∈xs0:=hpre.subset (by simp);obtain⟨r1,r2⟩:=hR x hmem;have hxl:xs.length=pre.length:=by
   have:=Gl List.length h6;rw [QN,QN] at this;exact this
  have hpl:pre.length<xs0.length:=by
   obtain⟨t,ht⟩:=hpre;rw [<- ht];simp only [lap,Qs];omega
  have hwY2:Bw w Y2:=hwW.trans (h8.mono hMU);have hd2:Bw Y2 Y2.drew:=(Gd _ _).drew;have hwY2d:Bw w Y2.drew:=zst hwY2 hd2;refine DrawE.ord [4,5] [0,1,2,3,4,5] (by kernel_rfl) ⟨_,zc (za (hdr h4)) (i:=0) rfl,cmo (ztC (hdr fR2) r1 r2 (hG.t32.below hwY2d)) ?_⟩;rintro e Y3 ⟨⟨q1,k1,q2,k2,q3,k3,q4,k4,rfl,o1,o2,o3,o4⟩,hb3⟩;refine⟨hb3,?_⟩;obtain⟨nx,hnx⟩:∃ nx:zdz,nx=(zas x,(q1,k1),(q2,k2),(q3,k3),(q4,k4)):=⟨_,rfl⟩;have hen:zib (zas x) q1 k1 q2 k2 q3 k3 q4 k4=jX.enc nx:=by rw [hnx];rfl
  rw [hen];refine⟨⟨by decide,by decide,rfl⟩,jX.enc nx,zaZ (jX.len nx) rfl,?_⟩;have hba:Bw Y3 (Y3.alloc (.cells (jX.enc nx).toArray 138)):=zba _ _;have sa:(Y3.alloc (.cells (jX.enc nx).toArray 138)).heap.size=Y3.heap.size+1:=wz _ _;have s3:Y2.heap.size<=Y3.heap.size:=hb3.size;refine⟨hba,?_⟩;have hb2:Bw Y2 (Y3.alloc (.cells (jX.enc nx).toArray 138)):=(hd2.trans hb3).trans (hba.mono s3);refine jF (E:=jX) (T:=138) (B:=M) (l:=xs) (news:=[nx]) (cap:=c) (m:=1) Tryz.underlying130 zoK rfl rfl rfl (h5.own.below hb2) rfl (qS jX nx) (by omega) (by omega) (by show (xs.length+1)*104<=_;omega) ?_;intro p2 c2 Y5 o5 g5 hb5 hat;have h4':Y5.heap[M+1]?=some (.cells [.slice p xs.length c].toArray 130 (0,0)):=by
   refine (g5.block (M+1) (hlt (zb hb2 h4)) fun e=>?_).trans (zb hb2 h4)
   cases hp:p with
   | none=>rw [hp] at e;simp [Value.ownBlock] at e
   | some a =>
    rw [hp] at e;simp only [Value.ownBlock,KZ] at e;obtain⟨_,_,cur,hcur⟩:=zaJ h5.own hp;rw [<- e] at hcur;rw [hcur] at h4;simp at h4
  refine zn zqg h4' (o:=0) (v := .slice p2 (xs++[nx]).length c2) rfl rfl (by show 0<1;decide) rfl fun Z fZ gZ sZ=>?_;have s5:=g5.size;have wr:∀ k,k<Y2.heap.size->k≠M+1->(∀ a,p=some a->k≠a.block)->Z.heap[k]?=Y2.heap[k]?:=fun k hk hne hnp=>by
   refine (gZ.block k (by omega) (by simpa using hne)).trans ((g5.block k (by omega) fun e=>?_).trans (hb2.block k hk))
   cases hp:p with
   | none=>rw [hp] at e;simp [Value.ownBlock] at e
   | some a =>
    rw [hp] at e;simp only [Value.ownBlock,KZ] at e;exact hnp a hp e
  have new:∀ k,Y2.heap.size<=k->k<Y3.heap.size->Z.heap[k]?=Y3.heap[k]?:=fun k hk1 hk2=>by
   refine (gZ.block k (by omega) (by simp;omega)).trans ((g5.block k (by omega) fun e=>?_).trans (hba.block k hk2))
   cases hp:p with
   | none=>rw [hp] at e;simp [Value.ownBlock] at e
   | some a =>
    rw [hp] at e;simp only [Value.ownBlock,KZ] at e;have:=h3 _ (h5.inF a hp);omega
  have tyne:∀ {α:Type} {E:Enc α} {T c:Nat} {r:OA} {B:Nat} {ll:List α},T≠138->T≠130->OwnS E T B Y2 r c ll->∀ a,r=some a->Z.heap[a.block]?=Y2.heap[a.block]?:=fun {α E T c r B ll} t1 t2 ho a ha=>by
   obtain⟨_,hl2,cur,hcur⟩:=zaJ ho ha;refine wr _ hl2 (fun e=>?_) (fun a' ha' e=>?_)
   ·rw [e,h4] at hcur;simp at hcur;exact t2 hcur.2.symm
   ·obtain⟨_,_,cur',hcur'⟩:=zaJ h5.own ha';rw [e,hcur'] at hcur;simp at hcur;exact t1 hcur.2.symm
  have inNew:∀ {α:Type} {E:Enc α} {T c:Nat} {r:OA} {ll:List α},OwnS E T Y2.drew.heap.size Y3 r c ll->RowIn E T W.heap.size (fun k=>F k\/(Y2.heap.size<=k/\k<Z.heap.size)) Z r c ll:=fun {α E T c r ll} ho=>by
   refine⟨OwnS.lower (ho.same fun a ha=>?_) h1,fun a ha=>?_⟩
   ·have:=zaJ ho ha;exact new _ this.1 this.2.1
   ·have h:=zaJ ho ha;have ha1:Y2.heap.size<=a.block:=h.1;exact .inr ⟨ha1,by have:=h.2.1;omega⟩
  refine⟨fun k=>F k\/(Y2.heap.size<=k/\k<Z.heap.size),⟨⟨by omega,.inl h2,fun k hk=>?_⟩,⟨xs++[nx],p2,c2,fZ,⟨o5.kept gZ fun g hg e=>?_,fun a ha=>?_⟩,?_,fun y hy=>?_⟩,?_⟩,⟨gZ.os.trans (g5.os.trans hb2.os),gZ.tape.trans (g5.tape.trans hb2.tape),gZ.output.trans (g5.output.trans hb2.output),by omega,fun k hk hf=>wr k hk (fun e=>hf (by rw [e];exact h2)) (fun a ha e=>hf (by rw [e];exact h5.inF a ha)),fun k hk=>hk.imp id fun h=>h.1⟩⟩
  ·rcases hk with hk | hk
   ·have:=h3 k hk;omega
   ·exact hk.2
  ·have:=zaJ o5 hg;obtain⟨_,_,cur,hcur⟩:=this;simp only [KZ] at e;have hcur:Y5.heap[g]?=_:=hcur;rw [<- e,h4'] at hcur;simp at hcur
  ·rcases hat a ha with h | h
   ·exact .inl (h5.inF a h)
   ·have:=(zaJ o5 ha).2.1;exact .inr ⟨by omega,by omega⟩
  ·rw [QR,h6,QR,hnx];rfl
  ·rcases QS.1 hy with hy | hy
   ·have h:=h7 y hy;have st:∀ {α:Type} {E:Enc α} {T c:Nat} {r:OA} {ll:List α},T≠138->T≠130->RowIn E T W.heap.size F Y2 r c ll->RowIn E T W.heap.size (fun k=>F k\/(Y2.heap.size<=k/\k<Z.heap.size)) Z r c ll:=fun {α E T c r ll} t1 t2 hh=>⟨hh.own.same fun a ha=>tyne t1 t2 hh.own a ha,fun a ha => .inl (hh.inF a ha)⟩;exact⟨st (by decide) (by decide) h.1,st (by decide) (by decide) h.2.1,st (by decide) (by decide) h.2.2.1,st (by decide) (by decide) h.2.2.2⟩
   ·simp only [KA] at hy;subst hy;rw [hnx];exact⟨inNew o1,inNew o2,inNew o3,inNew o4⟩
  ·refine h8.trans ⟨gZ.os.trans (g5.os.trans hb2.os),gZ.tape.trans (g5.tape.trans hb2.tape),gZ.output.trans (g5.output.trans hb2.output),by omega,fun k hk=>wr k (by omega) (by omega) fun a ha=>?_⟩;have:=(zaJ h5.own ha).1;omega
 ·rintro D2 F Y hD hfD ⟨⟨h1,h2,h3⟩,⟨xs,p,c,h4,h5,h6,h7⟩,h8⟩ hdef;have g1:Y.heap[L+1]?=some (.cells #[.slice none 0 0] 130 (0,0)):=(h8.block (L+1) (by omega)).trans (zb hbW f1);have g2:Y.heap[L+2]?=some (.cells #[i64 0] 56 (0,0)):=(h8.block (L+2) (by omega)).trans (zb hbW f2);have gD:Y.heap[D1]?=some (.deferred (some [])):=(h8.block D1 (by omega)).trans (zb hbW fD1);refine⟨_,zc (za h4) (i:=0) rfl,zn zqg g1 (o:=0) (v := .slice p xs.length c) rfl rfl (by show 0<1;decide) rfl fun Z1 fZ1 gZ1 sZ1=>?_⟩;have g2':=(gZ1.block (L+2) (hlt g2) (by simp)).trans g2;refine zn k56 g2' (o:=0) (v:=i64 0) rfl rfl (by show 0<1;decide) rfl fun Z2 fZ2 gZ2 sZ2=>?_;have hYs:M<Y.heap.size:=by omega
  have k2:∀ k,k<Y.heap.size->k≠L+1->k≠L+2->Z2.heap[k]?=Y.heap[k]?:=fun k hk n1 n2=>(gZ2.block k (by rw [sZ1];exact hk) (by simpa using n2)).trans (gZ1.block k hk (by simpa using n1));have hdef2:=(k2 D2 (hlt hdef) (by omega) (by omega)).trans hdef;have hD12:=(k2 D1 (hlt gD) (by omega) (by omega)).trans gD;have fZ1':=(gZ2.block (L+1) (hlt fZ1) (by simp)).trans fZ1;have neD:D1≠D2:=by omega
  refine⟨_,rfl,hdef2,_,rfl,(zj neD).trans hD12,?_⟩;obtain⟨Zf,hZf⟩:=nm ((Z2.putObj D2 (.deferred none)).putObj D1 (.deferred none));have kf:∀ k,k≠D1->k≠D2->Zf.heap[k]?=Z2.heap[k]?:=fun k n1 n2=>by rw [hZf];exact (zj n1).trans (zj n2)
  refine⟨.slice p xs.length c,?_,i64 0,?_,.inl ⟨xs,p,c,hm,rfl,h6,?_,fun x hx=>?_⟩,?_⟩
  ·exact zc (za (by rw [<- hZf];exact (kf (L+1) (by omega) (by omega)).trans fZ1')) (i:=0) rfl
  ·exact zc (za (by rw [<- hZf];exact (kf (L+2) (by omega) (by omega)).trans fZ2)) (i:=0) rfl
  ·rw [<- hZf];refine OwnS.lower (h5.own.same fun a ha=>?_) hMU;have h:=zaJ h5.own ha;have n1:a.block≠D2:=fun e=>by rw [<- e] at hfD;exact hfD (h5.inF a ha)
   exact (kf _ (by omega) n1).trans (k2 _ h.2.1 (by omega) (by omega))
  ·have h:=h7 x hx;have st:∀ {α:Type} {E:Enc α} {T c:Nat} {r:OA} {ll:List α},RowIn E T W.heap.size F Y r c ll->OwnS E T w.heap.size Zf r c ll:=fun {α E T c r ll} hh=>by
    refine OwnS.lower (hh.own.same fun a ha=>?_) hwW.size;have h:=zaJ hh.own ha;have n1:a.block≠D2:=fun e=>by rw [<- e] at hfD;exact hfD (hh.inF a ha)
    exact (kf _ (by omega) n1).trans (k2 _ h.2.1 (by omega) (by omega))
   rw [<- hZf];exact⟨st h.1,st h.2.1,st h.2.2.1,st h.2.2.2⟩
  ·have hwY:Bw w Y:=hwW.trans (h8.mono hMU);have b1:=(hwY.trans (zk gZ1 hwY.size (by omega))).trans (zk gZ2 (by rw [sZ1];exact hwY.size) (by omega));exact qP (qP b1 (by omega) _) (by omega) _
 ·rintro D ex pre F Y hD hfD hpre h;exact h.elim
end
def wrE (R:RunD) (i:Nat) (v:UInt8):Bool:=(List.range i).any fun j=>decide ((R.ev j).k=2)&&decide ((R.ev j).v=v)
def wrL (rs:List RunD) (v:UInt8):Bool:=rs.any fun R=>wrE R R.many v
theorem zlN (rs:List RunD):zaF rs=z5.filter (wrL rs):=rfl
def wrC (f:UInt8->Bool):List Value:=seg 256 fun i => .bool (f (UInt8.ofNat i))
theorem zlQ (f:UInt8->Bool) {i:Nat} (h:i<256):(wrC f)[i]?=some (.bool (f (UInt8.ofNat i))):=zce _ h
theorem zrm (f:UInt8->Bool) (x:UInt8):(wrC f).set x.toNat (.bool true)=wrC fun v=>f v||decide (x=v):=by
 have hx:=x.toNat_lt;apply KQ;intro j;by_cases hj:j<256
 ·rw [zlQ _ hj];by_cases e:x.toNat=j
  ·subst e;rw [JE (by unfold wrC;rw [zG];exact hx),UInt8.ofNat_toNat,Us rfl,Bool.or_true]
  ·rw [JV e,zlQ _ hj];have:x≠UInt8.ofNat j:=fun h=>e (by rw [h,KH];omega);rw [Uh this,Ux]
 ·rw [JK (by unfold wrC;rw [QQ,zG];omega),JK (by unfold wrC;rw [zG];omega)]
theorem zmV (f:UInt8->Bool):(wrC f).length=256:=zG _ _
theorem zpf (rs:List RunD) (R:RunD) (v:UInt8):wrL (rs++[R]) v=(wrL rs v||wrE R R.many v):=by
 unfold wrL;rw [List.any_append];simp
theorem zph (R:RunD) (i:Nat) (v:UInt8):wrE R (i+1) v=(wrE R i v||(decide ((R.ev i).k=2)&&decide ((R.ev i).v=v))):=by
 unfold wrE;rw [QW,List.any_append];simp
theorem zmt (p:UInt8->Bool) (x:UInt8):[x].filter p=if p x=true then [x] else []:=by
 rw [Qn,List.filter_nil]
theorem zqS {k:Nat} (h:k<256):∃ hl:k<z5.length,z5[k]=UInt8.ofNat k:=by
 have hl:z5.length=256:=by unfold z5;rw [QN,KV]
 refine⟨by rw [hl];exact h,?_⟩;simp [z5]
theorem zu5:List.replicate 256 (Value.bool false)=wrC fun _=>false:=by kernel_rfl
theorem zdI {a b:Nat}:decide ((a:Int)<(b:Int))=decide (a<b):=by rw [QG];omega
def jG (c:Cnd):Bool:=decide (c.thread=0)&&(decide (c.n=0)&&decide (c.val=0))
theorem zaK {threads locs d:Nat} (c:Cnd):zau threads locs (d+1) c=(if c.kind=0 then jG c&&decide (c.kids.length=0) else
  if c.kind=1 then decide (c.thread.toNat<threads)&&(decide (c.n.toNat<8)&&decide (c.kids.length=0)) else
  if c.kind=2 then decide (c.n.toNat<locs)&&(decide (c.thread=0)&&decide (c.kids.length=0)) else
  if c.kind=3\/c.kind=4 then jG c&&(decide (2<=c.kids.length)&&c.kids.all (zau threads locs d)) else
  if c.kind=5 then jG c&&(decide (c.kids.length=1)&&c.kids.all (zau threads locs d)) else false):=by
 obtain⟨k,t,n,v,kids⟩:=c;rfl
def ztc (c:Cnd):Prop:=(c.kind=3\/c.kind=4)/\jG c=true/\2<=c.kids.length\/c.kind=5/\jG c=true/\c.kids.length=1
theorem zmE {threads locs d:Nat} {c:Cnd} (h:ztc c):zau threads locs (d+1) c=c.kids.all (zau threads locs d):=by
 rw [zaK];rcases h with ⟨h1,h2,h3⟩ | ⟨h1,h2,h3⟩
 ·rw [Gq (by rcases h1 with h | h <;> rw [h] <;> decide),Gq (by rcases h1 with h | h <;> rw [h] <;> decide),Gq (by rcases h1 with h | h <;> rw [h] <;> decide),Gr h1,h2,Us h3];rfl
 ·rw [Gq (by rw [h1];decide),Gq (by rw [h1];decide),Gq (by rw [h1];decide),Gq (by rw [h1];decide),Gr h1,h2,Us h3];rfl
theorem zls {B threads locs:Nat} {w:Wd} (hB:B<=w.heap.size):∀ (d:Nat) (c:Cnd) (b o:Nat) (p:OA) (cap:Nat),d<=1000->b<B->zF w ⟨b,o,none⟩ (j8 c p cap)->KidsV B w p c.kids ->
  Calls PG 100 #[.pointer (some ⟨b,o,none⟩),i64 threads,i64 locs,i64 d] w fun e w'=>e = .returned (.bool (zau threads locs d c))/\w=w':=by
 intro d
 induction d with
 | zero =>
  intro c b o p cap _ hb hc hk;refine zI 141 [.pointer (some ⟨b,o,none⟩),i64 threads,i64 locs,i64 0] Tryz.func100 ?_;exact brT ⟨rfl,rfl⟩
 | succ d ih =>
  intro c b o p cap hd hb hc hk;refine qj 141 [.pointer (some ⟨b,o,none⟩),i64 threads,i64 locs,i64 (d+1:Nat)] (.s .p (.s .p (.c .p (.c .p .p)))) Tryz.func100 ?_;have hbl:b<w.heap.size:=nL hb hB;refine biE (fun h=>?_) fun h=>?_
  ·have h:((d+1:Nat):Int)=0:=dT h;omega
  clear h;refine⟨Unit,fun _=>⟨[(0,.pointer (some ⟨b,o,none⟩)),(1,i64 threads),(2,i64 locs),(3,i64 (d+1:Nat)),(9,.bool (jG c))],[]⟩,fun _ X=>w=X,?_,?_⟩
  ·have fin:∀ {v:Bool},v=jG c->some (Value.bool v)=some (.bool (jG c)):=fun h=>by rw [h]
   refine⟨_,zc hc (i:=1) rfl,biE (fun h1=>?_) fun h1=>?_⟩
   ·have h1:decide (c.thread=0)=true:=(u8d c.thread 0).symm.trans h1;refine⟨_,zc hc (i:=2) rfl,biE (fun h2=>?_) fun h2=>?_⟩
    ·have h2:decide (c.n=0)=true:=(u8d c.n 0).symm.trans h2;exact⟨_,zc hc (i:=3) rfl,(),⟨.cons rfl (.cons rfl (.cons rfl (.cons rfl (.cons (fin (by unfold jG;rw [h1,h2];exact u8d c.val 0)) .nil)))),rfl⟩,rfl⟩
    ·have h2:decide (c.n=0)=false:=(u8d c.n 0).symm.trans h2;exact⟨(),⟨.cons rfl (.cons rfl (.cons rfl (.cons rfl (.cons (fin (by unfold jG;rw [h1,h2];rfl)) .nil)))),rfl⟩,rfl⟩
   ·have h1:decide (c.thread=0)=false:=(u8d c.thread 0).symm.trans h1;exact brF ⟨(),⟨.cons rfl (.cons rfl (.cons rfl (.cons rfl (.cons (fin (by unfold jG;rw [h1];rfl)) .nil)))),rfl⟩,rfl⟩
  rintro _ _ rfl;refine⟨Unit,fun _=>⟨[(0,.pointer (some ⟨b,o,none⟩)),(1,i64 threads),(2,i64 locs),(3,i64 (d+1:Nat))],[]⟩,fun _ X=>ztc c/\w=X,?_,?_⟩
  ·have hkn:c.kids.length<=140737488351232:=by have:=hk.inv.1;omega
   refine⟨_,zc hc (i:=0) rfl,biE (fun h0=>?_) fun h0=>?_⟩
   ·have h0:c.kind=0:=dT ((u8d c.kind 0).symm.trans h0);have e:zau threads locs (d+1) c=(jG c&&decide (c.kids.length=0)):=(by rw [zaK,Gr h0]);rw [e];refine biE (fun h=>?_) fun h=>?_
    ·have h:jG c=true:=h;exact⟨_,zc hc (i:=4) rfl,rb (by rw [h,Uy];exact zb7),rfl⟩
    ·have h:jG c=false:=h;exact⟨rb (by rw [h];rfl),rfl⟩
   have h0:¬ c.kind=0:=dF ((u8d c.kind 0).symm.trans h0);refine biE (fun h1=>?_) fun h1=>?_
   ·have h1:c.kind=1:=dT ((u8d c.kind 1).symm.trans h1);have e:zau threads locs (d+1) c=(decide (c.thread.toNat<threads)&&(decide (c.n.toNat<8)&&decide (c.kids.length=0))):=(by rw [zaK,Gq h0,Gr h1]);rw [e];refine⟨_,zc hc (i:=1) rfl,_,qW _,biE (fun h=>?_) fun h=>?_⟩
    ·have h:decide (c.thread.toNat<threads)=true:=zdI.symm.trans h;refine⟨_,zc hc (i:=2) rfl,biE (fun h2=>?_) fun h2=>?_⟩
     ·have h2:decide (c.n.toNat<8)=true:=(zdI (b:=8)).symm.trans h2;exact⟨_,zc hc (i:=4) rfl,rb (by rw [h,h2];exact zb7),rfl⟩
     ·have h2:decide (c.n.toNat<8)=false:=(zdI (b:=8)).symm.trans h2;exact⟨rb (by rw [h,h2];rfl),rfl⟩
    ·have h:decide (c.thread.toNat<threads)=false:=zdI.symm.trans h;exact brF ⟨rb (by rw [h];rfl),rfl⟩
   have h1:¬ c.kind=1:=dF ((u8d c.kind 1).symm.trans h1);refine biE (fun h2=>?_) fun h2=>?_
   ·have h2:c.kind=2:=dT ((u8d c.kind 2).symm.trans h2);have e:zau threads locs (d+1) c=(decide (c.n.toNat<locs)&&(decide (c.thread=0)&&decide (c.kids.length=0))):=(by rw [zaK,Gq h0,Gq h1,Gr h2]);rw [e];refine⟨_,zc hc (i:=2) rfl,_,qW _,biE (fun h=>?_) fun h=>?_⟩
    ·have h:decide (c.n.toNat<locs)=true:=zdI.symm.trans h;refine⟨_,zc hc (i:=1) rfl,biE (fun h3=>?_) fun h3=>?_⟩
     ·have h3:decide (c.thread=0)=true:=(u8d c.thread 0).symm.trans h3;exact⟨_,zc hc (i:=4) rfl,rb (by rw [h,h3];exact zb7),rfl⟩
     ·have h3:decide (c.thread=0)=false:=(u8d c.thread 0).symm.trans h3;exact⟨rb (by rw [h,h3];rfl),rfl⟩
    ·have h:decide (c.n.toNat<locs)=false:=zdI.symm.trans h;exact brF ⟨rb (by rw [h];rfl),rfl⟩
   have h2:¬ c.kind=2:=dF ((u8d c.kind 2).symm.trans h2);have g34:∀ (hk34:c.kind=3\/c.kind=4),zau threads locs (d+1) c=(jG c&&(decide (2<=c.kids.length)&&c.kids.all (zau threads locs d))):=fun hk34=>by
    rw [zaK,Gq h0,Gq h1,Gq h2,Gr hk34]
   refine biE (fun h3=>?_) fun h3=>?_
   ·have h3':decide ((c.kind.toNat:Int)=3)=true:=h3;have h3:c.kind=3\/c.kind=4 := .inl (dT ((u8d c.kind 3).symm.trans h3));refine brE h3' (biE (fun h=>?_) fun h=>?_)
    ·have h:(!jG c)=true:=h;have h:jG c=false:=(by simpa using h);exact brT ⟨rb (by rw [g34 h3,h];rfl),rfl⟩
    ·have h:(!jG c)=false:=h;have h:jG c=true:=(by simpa using h);refine⟨_,zc hc (i:=4) rfl,biE (fun h4=>?_) fun h4=>?_⟩
     ·have h4:(c.kids.length:Int)<2:=dT h4;exact⟨rb (by rw [g34 h3,Uh (by omega)];simp),rfl⟩
     ·have h4:¬ (c.kids.length:Int)<2:=dF h4;exact⟨(),(cvE rfl rfl),.inl ⟨h3,h,by omega⟩,rfl⟩
   have h3:¬ c.kind=3:=dF ((u8d c.kind 3).symm.trans h3);refine biE (fun h4=>?_) fun h4=>?_
   ·have h3:c.kind=3\/c.kind=4 := .inr (dT ((u8d c.kind 4).symm.trans h4));refine biE (fun h=>?_) fun h=>?_
    ·have h:(!jG c)=true:=h;have h:jG c=false:=(by simpa using h);exact brT ⟨rb (by rw [g34 h3,h];rfl),rfl⟩
    ·have h:(!jG c)=false:=h;have h:jG c=true:=(by simpa using h);refine⟨_,zc hc (i:=4) rfl,biE (fun h4=>?_) fun h4=>?_⟩
     ·have h4:(c.kids.length:Int)<2:=dT h4;exact⟨rb (by rw [g34 h3,Uh (by omega)];simp),rfl⟩
     ·have h4:¬ (c.kids.length:Int)<2:=dF h4;exact⟨(),(cvE rfl rfl),.inl ⟨h3,h,by omega⟩,rfl⟩
   have h4:¬ c.kind=4:=dF ((u8d c.kind 4).symm.trans h4);have h34:¬ (c.kind=3\/c.kind=4):=fun h=>h.elim h3 h4;refine biE (fun h5=>?_) fun h5=>?_
   ·have h5:c.kind=5:=dT ((u8d c.kind 5).symm.trans h5);have e:zau threads locs (d+1) c=(jG c&&(decide (c.kids.length=1)&&c.kids.all (zau threads locs d))):=(by rw [zaK,Gq h0,Gq h1,Gq h2,Gq h34,Gr h5]);refine biE (fun h=>?_) fun h=>?_
    ·have h:(!jG c)=true:=h;have h:jG c=false:=(by simpa using h);exact brT ⟨rb (by rw [e,h];rfl),rfl⟩
    ·have h:(!jG c)=false:=h;have h:jG c=true:=(by simpa using h);refine⟨_,zc hc (i:=4) rfl,biE (fun h4=>?_) fun h4=>?_⟩
     ·have h4:(!decide ((c.kids.length:Int)=1))=true:=h4;have h4:¬ (c.kids.length:Int)=1:=(by simpa using h4);exact⟨rb (by rw [e,Uh (by omega)];simp),rfl⟩
     ·have h4:(!decide ((c.kids.length:Int)=1))=false:=h4;have h4:(c.kids.length:Int)=1:=(by simpa using h4);exact⟨(),(cvE rfl rfl),.inr ⟨h5,h,by omega⟩,rfl⟩
   have h5:¬ c.kind=5:=dF ((u8d c.kind 5).symm.trans h5);exact⟨rb (by rw [zaK,Gq h0,Gq h1,Gq h2,Gq h34,Gq h5]),rfl⟩
  rintro _ _ ⟨ha,rfl⟩;rw [zmE ha];refine⟨_,zc hc (i:=4) rfl,?_⟩;obtain⟨hn,b1,o1,hp,hks⟩:=hk.inv;refine⟨Nat,fun k=>⟨[(0,.pointer (some ⟨b,o,none⟩)),(1,i64 threads),(2,i64 locs),(3,i64 (d+1:Nat)),(124,i64 c.kids.length),(125,i64 (k:Nat))],[]⟩,fun k X=>k<=c.kids.length/\(∀ x∈c.kids.take k,zau threads locs d x=true)/\w=X,fun k=>c.kids.length-k,0,
   (cvE rfl rfl),⟨Gb _,by simp,rfl⟩,?_⟩
  rintro k _ ⟨hk,hall,rfl⟩;dsimp only at hk hall ⊢;refine biE (fun hc2=>?_) fun hc2=>?_
  ·have hc2:(k:Int)<(c.kids.length:Int):=dT hc2;have hkl:k<c.kids.length:=by omega
   rcases hp with hp | rfl
   ·omega
   obtain⟨q,cq,hb1,hq,hkq⟩:=hks k hkl;refine⟨_,zc hc (i:=4) rfl,k,rfl,hkl,(d:Int),(ze (by omega)).trans (by omega),cmo (ih c.kids[k] b1 (o1+k*5) q cq (by omega) hb1 hq hkq) ?_⟩;rintro e _ ⟨rfl,rfl⟩;refine biE (fun h=>?_) fun h=>?_
   ·have h:(!zau threads locs d c.kids[k])=true:=h;refine⟨rb ?_,rfl⟩;symm;rw [KM];exact⟨c.kids[k],gM _,by simpa using h⟩
   ·have h:(!zau threads locs d c.kids[k])=false:=h;refine⟨_,(ze (by omega)).trans rfl,k+1,(cvE rfl rfl),⟨hkl,?_,rfl⟩,zdc (by omega)⟩;rw [tsg hkl];intro x hx;rcases QS.1 hx with hx | hx
    ·exact hall x hx
    ·simp only [KA] at hx;rw [hx];simpa using h
  ·have hc2:¬ (k:Int)<(c.kids.length:Int):=dF hc2;obtain rfl:k=c.kids.length:=by omega
   rw [Qw] at hall;exact⟨rb (Qj.2 hall).symm,rfl⟩
theorem zuq {B threads locs cap:Nat} {p:OA} {c:Cnd} {w:Wd} (hB:B<=w.heap.size) (hk:KidsV B w p c.kids) :
  CB 70 #[.agg (j8 c p cap).toArray,i64 threads,i64 locs] w (.bool (zau threads locs 20 c)):=by
 refine zI 10 [.agg (j8 c p cap).toArray,i64 threads,i64 locs] Tryz.func70 ?_;have hb:Bw w (w.alloc (.cells (j8 c p cap).toArray 27)):=zba w _;have hn:=zu w (.cells (j8 c p cap).toArray 27);refine cmo (zls (B:=w.heap.size+1) (by rw [wz];omega) 20 c w.heap.size 0 p cap (by omega) (by omega) (za hn) ((hk.kept (hb.mono hB)).wider (by omega))) ?_;rintro e _ ⟨rfl,rfl⟩;exact⟨rfl,hb⟩
theorem zk2 {g:Nat} {p:Prg} {p1 p2 p3 p4:OA} {c1 c2 c3 c4 B:Nat} {w:Wd} (hc:zF w ⟨g,0,none⟩ (zag p p1 c1 p2 c2 p3 c3 p4 c4)) (hg:g<w.heap.size) (h1:RowB zkX B w p1 p.locs) (hB:B<=w.heap.size) (hcap:p.locs.length<=c1) (hl:PrgLen p) :
  CB 62 #[At0 g] w (.bool (zd4 p)):=by
 refine qj 56 [At0 g] (.s .p (.c .p .p)) Tryz.func62 ?_;have hbd:Bw w w.drew:=(Gd _ w).drew;have hcd:zF w.drew ⟨g,0,none⟩ (zag p p1 c1 p2 c2 p3 c3 p4 c4):=zq hbd hc;have h1d:SlR zkX w.drew p1 p.locs:=(h1.below (hbd.mono hB)).slr (UO hB hbd.size);have hln:=hl.locs;refine⟨Unit,fun _=>⟨[(0,At0 g)],[]⟩,fun _ X=>(1<=p.locs.length/\p.locs.length<=6/\p.init.length=p.locs.length)/\X=w.drew,?_,?_⟩
 ·refine DrawE.ord [] [0,1,2,3,4,5,6,7,8,9,10,11,12,13,14,15,16,17,18,19,20,21,22,23,24,25,26] (by kernel_rfl) ⟨_,zc hcd (i:=1) rfl,biE (fun ha=>?_) fun ha=>?_⟩
  ·have ha:(p.locs.length:Int)<1:=dT ha;exact brT (brT ⟨rb (by unfold zd4;rw [Uh (by omega)];rfl),hbd⟩)
  ·have ha:¬ (p.locs.length:Int)<1:=dF ha;refine⟨_,zc hcd (i:=1) rfl,biE (fun hd=>?_) fun hd=>?_⟩
   ·have hd:(6:Int)<(p.locs.length:Int):=dT hd;exact brT ⟨rb (by unfold zd4;rw [Uh (p:=p.locs.length<=6) (by omega)];simp),hbd⟩
   ·have hd:¬ (6:Int)<(p.locs.length:Int):=dF hd;refine⟨_,zc hcd (i:=2) rfl,_,zc hcd (i:=1) rfl,biE (fun he=>?_) fun he=>?_⟩
    ·have he:(!decide ((p.init.length:Int)=(p.locs.length:Int)))=true:=he;have he:¬ (p.init.length:Int)=(p.locs.length:Int):=(by simpa using he);exact⟨rb (by unfold zd4;rw [Uh (p:=p.init.length=p.locs.length) (by omega)];simp),hbd⟩
    ·have he:(!decide ((p.init.length:Int)=(p.locs.length:Int)))=false:=he;have he:(p.init.length:Int)=(p.locs.length:Int):=(by simpa using he);exact⟨(),(cvE rfl rfl),⟨by omega,by omega,by omega⟩,rfl⟩
 rintro _ _ ⟨⟨l1,l6,li⟩,rfl⟩;have hdef:zd4 p=zeg [] p.locs:=by unfold zd4;rw [Us l1,Us l6,Us li];rfl
 rw [hdef];refine⟨_,zc hcd (i:=1) rfl,?_⟩;refine⟨Nat,fun k=>⟨[(0,At0 g),(35,.slice p1 p.locs.length c1),(36,i64 p.locs.length),(37,i64 (k:Nat))],[]⟩,fun k X=>k<=p.locs.length/\zeg (p.locs.take k) (p.locs.drop k)=zeg [] p.locs/\X=w.drew,fun k=>p.locs.length-k,0,
  (cvE rfl rfl),⟨Gb _,rfl,rfl⟩,?_⟩
 rintro k _ ⟨hk,hna,rfl⟩;dsimp only at hk hna ⊢;refine biE (fun hc2=>?_) fun hc2=>?_
 ·have hc2:(k:Int)<(p.locs.length:Int):=dT hc2;have hkl:k<p.locs.length:=by omega
  obtain⟨b,o,rfl,hb,hat⟩:=h1d.at hkl;have hbk:Bw w w.drew:=hbd;refine⟨k,rfl,hkl,_,zc (hat k hkl) (i:=0) rfl,?_⟩;have hs:p.locs[k].length<=140737488351232:=hl.loc _ (gM _);have hstep:zeg [] p.locs=(zeS p.locs[k]&&(!((p.locs.take k).any fun q=>decide (q=p.locs[k]))&&zeg (p.locs.take (k+1)) (p.locs.drop (k+1)))):=by
   rw [<- hna,Jq hkl,tsg hkl];rfl
  refine cmo (zuj p.locs[k] hs _) ?_;rintro e _ ⟨rfl,rfl⟩;refine biE (fun h=>?_) fun h=>?_
  ·have h:(!zeS p.locs[k])=true:=h;have h:zeS p.locs[k]=false:=by simpa using h
   exact brT ⟨rb (by rw [hstep,h];rfl),hbd⟩
  ·have h:(!zeS p.locs[k])=false:=h;have h:zeS p.locs[k]=true:=by simpa using h
   refine⟨_,zc hcd (i:=1) rfl,k,rfl,by omega,?_⟩;have hsub:SlR zkX w.drew (jj (some ⟨b,o,none⟩) c1 0 1) (p.locs.take k):=SlR.sub h1d (lo:=0) (hi:=k) (Gb _) (by omega) hcap;have htl:(p.locs.take k).length=k:=by rw [Qu];omega
   have hcn:=zmQ (jj (some ⟨b,o,none⟩) c1 0 1) (c1-0) (p.locs.take k) p.locs[k] w.drew hsub (by omega);rw [htl] at hcn;refine cmo hcn ?_;rintro e _ ⟨rfl,rfl⟩;refine biE (fun h5=>?_) fun h5=>?_
   ·have h5:((p.locs.take k).any fun q=>decide (q=p.locs[k]))=true:=h5;exact⟨rb (by rw [hstep,h5];simp),hbd⟩
   ·have h5:((p.locs.take k).any fun q=>decide (q=p.locs[k]))=false:=h5;exact⟨_,(ze (by omega)).trans rfl,k+1,(cvE rfl rfl),⟨hkl,by rw [hstep,h,h5];rfl,rfl⟩,zdc (by omega)⟩
 ·have hc2:¬ (k:Int)<(p.locs.length:Int):=dF hc2;obtain rfl:k=p.locs.length:=by omega
  rw [Qm] at hna;exact⟨rb hna,hbd⟩
structure DmV (B:Nat) (X:Wd) (g bx:Nat) (p:Prg):Prop where
 hB:B<=X.heap.size
 hg:g<X.heap.size
 len:PrgLen p
 h:∃ p1 c1 p2 c2 p3 c3 p4 c4,zF X ⟨g,0,none⟩ (zag p p1 c1 p2 c2 p3 c3 p4 c4)/\RowB zkX B X p1 p.locs/\RowB zV B X p2 p.init/\ThrsV B X p3 p.threads/\KidsV B X p4 p.cond.kids/\p.locs.length<=c1
 b:X.heap[bx]?=some (.cells #[At0 g] 85 (0,0))
 G:GlobC X
theorem DmV.below {B:Nat} {X Y:Wd} {g bx:Nat} {p:Prg} (h:DmV B X g bx p) (hb:Bw X Y):DmV B Y g bx p:=by
 obtain⟨p1,c1,p2,c2,p3,c3,p4,c4,h0,h1,h2,h3,h4,h5⟩:=h.h;have hb':=hb.mono h.hB;exact⟨UO h.hB hb.size,nL h.hg hb.size,h.len,⟨p1,c1,p2,c2,p3,c3,p4,c4,zq hb h0,h1.below hb',h2.below hb',h3.below hb',h4.kept hb',h5⟩,zb hb h.b,h.G.below hb⟩
def zl8 (sel:Bool) (bx:Nat):Value:=match sel with
 | false => .func (.func 64) #[] #[]
 | true => .func (.func 66) #[] #[.pointer (some ⟨bx,0,none⟩)]
def zcf (sel:Bool) (p:Prg) (l:List InsD):Bool:=match sel with
 | false=>decide (l.length<=12)
 | true=>qy l p.locs.length
section
variable {B g bx:Nat} {p:Prg} {w:Wd}
theorem zrr (q:OA) (cap:Nat) (l:List InsD):Calls PG 64 #[.slice q l.length cap] w fun e w'=>e = .returned (.bool (decide (l.length<=12)))/\w=w':=by
 refine zI 6 [.slice q l.length cap] Tryz.func64 ?_;refine⟨rb ?_,rfl⟩;rw [QG];show ((l.length:Int)<=12)↔_;omega
theorem zpr (h:DmV B w g bx p) {q:OA} {cap:Nat} {l:List InsD} (hl:SlR zD w q l) (hn:l.length<=140737488351232) :
  CB 66 #[.slice q l.length cap,At0 bx] w (.bool (qy l p.locs.length)):=by
 refine zI 11 [.slice q l.length cap,At0 bx] Tryz.func66 ?_;obtain⟨p1,c1,p2,c2,p3,c3,p4,c4,h0,h1,h2,h3,h4,h5⟩:=h.h;refine⟨_,zc (za h.b) (i:=0) rfl,_,zc h0 (i:=1) rfl,cmo (zlH hl h.G hn) ?_⟩;rintro e V ⟨rfl,hb⟩;exact⟨rfl,hb⟩
theorem znI (sel:Bool) (h:DmV B w g bx p):CB 58 #[zl8 sel bx,At0 bx] w (.bool (p.threads.all (zcf sel p))):=by
 refine zI 20 [zl8 sel bx,At0 bx] Tryz.func58 ?_;obtain⟨p1,c1,p2,c2,p3,c3,p4,c4,h0,h1,h2,h3,h4,h5⟩:=h.h;obtain⟨xs,hxs,hr,hx⟩:=h3;have hlen:p.threads.length=xs.length:=by rw [<- hxs,QN]
 have hln:=h.len.threads;refine⟨_,zc (za h.b) (i:=0) rfl,_,zc h0 (i:=3) rfl,?_⟩;refine⟨Nat,fun k=>⟨[(0,zl8 sel bx),(1,At0 bx),(9,.slice p3 p.threads.length c3),(10,i64 p.threads.length),(11,i64 (k:Nat))],[]⟩,fun k X=>k<=p.threads.length/\(∀ l∈p.threads.take k,zcf sel p l=true)/\Bw w X,fun k=>p.threads.length-k,0,
  (cvE rfl rfl),⟨Gb _,by simp,Gd _ _⟩,?_⟩
 rintro k X ⟨hk,hall,hbX⟩;dsimp only at hk hall ⊢;have hX:=h.below hbX;refine biE (fun hc=>?_) fun hc=>?_
 ·have hc:(k:Int)<(p.threads.length:Int):=dT hc;have hkl:k<p.threads.length:=by omega
  have hkx:k<xs.length:=by omega
  have e1:p.threads[k]=xs[k].1:=by simp [<- hxs]
  obtain⟨b,o,hp3,hat⟩:=hr.get;rcases hp3 with hp3 | rfl
  ·omega
  refine⟨k,rfl,hkl,?_⟩;obtain⟨hb1,ha1⟩:=hat k hkx;refine⟨_,zc (zW (hbX.mono h.hB) hb1 ha1) (i:=0) rfl,?_⟩;have zdZ:SlR zD X xs[k].2.1 xs[k].1:=((hx _ (gM hkx)).below (hbX.mono h.hB)).slr hX.hB;have hln1:xs[k].1.length<=140737488351232:=by rw [<- e1];exact h.len.thread _ (gM _)
  have hfin:zcf sel p xs[k].1=false->p.threads.all (zcf sel p)=false:=fun hf=>by
   rw [KM];exact⟨p.threads[k],gM _,by rw [e1,hf];simp⟩
  have hgo:zcf sel p xs[k].1=true->∀ l∈p.threads.take (k+1),zcf sel p l=true:=fun ht=>by
   rw [tsg hkl];intro x hx;rcases QS.1 hx with hx | hx
   ·exact hall x hx
   ·simp only [KA] at hx;rw [hx,e1];exact ht
  cases sel with
  | false =>
   refine cmo (zrr xs[k].2.1 xs[k].2.2 xs[k].1) ?_;rintro e _ ⟨rfl,rfl⟩;refine biE (fun hb=>?_) fun hb=>?_
   ·have hb:(!zcf false p xs[k].1)=true:=hb;exact⟨rb (hfin (by simpa using hb)).symm,hbX⟩
   ·have hb:(!zcf false p xs[k].1)=false:=hb;exact⟨_,(ze (by omega)).trans rfl,k+1,(cvE rfl rfl),⟨hkl,hgo (by simpa using hb),hbX⟩,zdc (by omega)⟩
  | true =>
   refine cmo (zpr hX (cap:=xs[k].2.2) zdZ hln1) ?_;rintro e Y ⟨rfl,hbY⟩;refine biE (fun hb=>?_) fun hb=>?_
   ·have hb:(!zcf true p xs[k].1)=true:=hb;exact⟨rb (hfin (by simpa using hb)).symm,(zst hbX hbY)⟩
   ·have hb:(!zcf true p xs[k].1)=false:=hb;exact⟨_,(ze (by omega)).trans rfl,k+1,(cvE rfl rfl),⟨hkl,hgo (by simpa using hb),(zst hbX hbY)⟩,zdc (by omega)⟩
 ·have hc:¬ (k:Int)<(p.threads.length:Int):=dF hc;obtain rfl:k=p.threads.length:=by omega
  rw [Qw] at hall;exact⟨rb (Qj.2 hall).symm,hbX⟩
theorem zt7 (h:DmV B w g bx p):CB 59 #[At0 bx] w (.bool (zdL p.name)):=by
 refine zI 7 [At0 bx] Tryz.func59 ?_;obtain⟨p1,c1,p2,c2,p3,c3,p4,c4,h0,h1,h2,h3,h4,h5⟩:=h.h;refine⟨_,zc (za h.b) (i:=0) rfl,_,zc h0 (i:=0) rfl,cmo (zqh p.name h.len.name w) ?_⟩;rintro e V ⟨rfl,hb⟩;exact⟨rfl,hb⟩
theorem zt6 (h:DmV B w g bx p):CB 61 #[At0 bx] w (.bool (zd4 p)):=by
 refine zI 4 [At0 bx] Tryz.func61 ?_;obtain⟨p1,c1,p2,c2,p3,c3,p4,c4,h0,h1,h2,h3,h4,h5⟩:=h.h;refine⟨_,zc (za h.b) (i:=0) rfl,cmo (zk2 h0 h.hg h1 h.hB h5 h.len) ?_⟩;rintro e V ⟨rfl,hb⟩;exact⟨rfl,hb⟩
def evV (bx:Nat):Value := .func (.func 58) #[] #[At0 bx]
theorem zt5 (h:DmV B w g bx p) {ev:Nat} (hev:w.heap[ev]?=some (.cells #[evV bx] 121 (0,0))):CB 63 #[At0 bx,At0 ev] w (.bool (decide (1<=p.threads.length)&&(decide (p.threads.length<=4)&&p.threads.all fun l=>decide (l.length<=12)))):=by
 refine zI 21 [At0 bx,At0 ev] Tryz.func63 ?_;obtain⟨p1,c1,p2,c2,p3,c3,p4,c4,h0,h1,h2,h3,h4,h5⟩:=h.h;refine⟨_,zc (za h.b) (i:=0) rfl,_,zc h0 (i:=3) rfl,biE (fun ha=>?_) fun ha=>?_⟩
 ·have ha:(1:Int)<=(p.threads.length:Int):=dT ha;refine⟨_,zc (za h.b) (i:=0) rfl,_,zc h0 (i:=3) rfl,biE (fun hb=>?_) fun hb=>?_⟩
  ·have hb:(p.threads.length:Int)<=4:=dT hb;refine⟨_,zc (za hev) (i:=0) rfl,cmo (znI false h) ?_⟩;rintro e V ⟨rfl,hbV⟩;refine⟨rb ?_,hbV⟩;rw [Us (by omega),Us (by omega),Uy,Uy];rfl
  ·have hb:¬ (p.threads.length:Int)<=4:=dF hb;exact⟨rb (by rw [Uh (p:=p.threads.length<=4) (by omega)];simp),Gd _ _⟩
 ·have ha:¬ (1:Int)<=(p.threads.length:Int):=dF ha;exact brF ⟨rb (by rw [Uh (p:=1<=p.threads.length) (by omega)];rfl),Gd _ _⟩
theorem zt4 (h:DmV B w g bx p) {ev:Nat} (hev:w.heap[ev]?=some (.cells #[evV bx] 121 (0,0))):CB 65 #[At0 ev,At0 bx] w (.bool (p.threads.all fun l=>qy l p.locs.length)):=by
 refine zI 6 [At0 ev,At0 bx] Tryz.func65 ?_;refine⟨_,zc (za hev) (i:=0) rfl,cmo (znI true h) ?_⟩;rintro e V ⟨rfl,hbV⟩;exact⟨rfl,hbV⟩
theorem zt3 (h:DmV B w g bx p):CB 68 #[At0 bx] w (.bool (decide (p.ask=1)||(decide (p.ask=2)||decide (p.ask=3)))):=by
 refine zI 21 [At0 bx] Tryz.func68 ?_;obtain⟨p1,c1,p2,c2,p3,c3,p4,c4,h0,h1,h2,h3,h4,h5⟩:=h.h;refine⟨_,zc (za h.b) (i:=0) rfl,_,zc h0 (i:=4) rfl,biE (fun ha=>?_) fun ha=>?_⟩
 ·have ha:decide (p.ask=1)=true:=(u8d p.ask 1).symm.trans ha;exact brT ⟨rb (by rw [ha];rfl),Gd _ _⟩
 ·have ha:decide (p.ask=1)=false:=(u8d p.ask 1).symm.trans ha;refine⟨_,zc (za h.b) (i:=0) rfl,_,zc h0 (i:=4) rfl,biE (fun hb=>?_) fun hb=>?_⟩
  ·have hb:decide (p.ask=2)=true:=(u8d p.ask 2).symm.trans hb;exact⟨rb (by rw [ha,hb];rfl),Gd _ _⟩
  ·have hb:decide (p.ask=2)=false:=(u8d p.ask 2).symm.trans hb;exact⟨_,zc (za h.b) (i:=0) rfl,_,zc h0 (i:=4) rfl,rb (by rw [ha,hb];exact u8d p.ask 3),Gd _ _⟩
theorem zt2 (h:DmV B w g bx p):CB 69 #[At0 bx] w (.bool (zau p.threads.length p.locs.length 20 p.cond)):=by
 refine zI 17 [At0 bx] Tryz.func69 ?_;have hbd:Bw w w.drew:=(Gd _ w).drew;have hd:=h.below hbd;obtain⟨p1,c1,p2,c2,p3,c3,p4,c4,h0,h1,h2,h3,h4,h5⟩:=hd.h;refine DrawE.ord [] [0,1,2,3,4,5,6,7,8,9,10,11,12,13,14,15] (by kernel_rfl) ⟨_,zc (za hd.b) (i:=0) rfl,j8 p.cond p4 c4,rfl,zT (n:=5) (m:=5) h0,hd.hg,_,zc (za hd.b) (i:=0) rfl,_,zc h0 (i:=3) rfl,_,zc (za hd.b) (i:=0) rfl,_,zc h0 (i:=1) rfl,cmo (zuq hd.hB h4) ?_⟩;rintro e V ⟨rfl,hbV⟩;exact⟨hbV,rfl,hbd.trans hbV⟩
def zt1 (bx ev:Nat):List Value:=[i64 70,.func (.func 59) #[] #[At0 bx],i64 71,.func (.func 61) #[] #[At0 bx],
 i64 72,.func (.func 63) #[] #[At0 bx,At0 ev],i64 73,.func (.func 65) #[] #[At0 ev,At0 bx],
 i64 75,.func (.func 68) #[] #[At0 bx],i64 74,.func (.func 69) #[] #[At0 bx]]
theorem zoT {g:Nat} {w:Wd}:Calls PG 28 #[At0 g] w fun e w'=>e = .returned (.slice (some ⟨w.heap.size+2,0,none⟩) 6 6) /\
  w'.heap[w.heap.size]?=some (.cells #[At0 g] 85 (0,0))/\w'.heap[w.heap.size+1]?=some (.cells #[evV w.heap.size] 121 (0,0)) /\
  w'.heap[w.heap.size+2]?=some (.cells (zt1 w.heap.size (w.heap.size+1)).toArray 87 (0,0))/\w'.heap.size=w.heap.size+3/\Bw w w':=by
 refine zI 18 [At0 g] Tryz.func28 ?_;have hs:=wz w (.cells (At0 g).cells 85);refine zo (X:=w.alloc (.cells (At0 g).cells 85)) (v:=evV w.heap.size) zvo rfl rfl rfl fun V hbV fV sV=>?_;generalize hev:(w.alloc (.cells (At0 g).cells 85)).heap.size=ev at *;refine⟨[i64 70,.func (.func 59) #[] #[.pointer (some ⟨w.heap.size,0,none⟩)]],rfl,[i64 71,.func (.func 61) #[] #[.pointer (some ⟨w.heap.size,0,none⟩)]],rfl,[i64 72,.func (.func 63) #[] #[.pointer (some ⟨w.heap.size,0,none⟩),At0 ev]],rfl,[i64 73,.func (.func 65) #[] #[At0 ev,.pointer (some ⟨w.heap.size,0,none⟩)]],rfl,[i64 75,.func (.func 68) #[] #[.pointer (some ⟨w.heap.size,0,none⟩)]],rfl,[i64 74,.func (.func 69) #[] #[.pointer (some ⟨w.heap.size,0,none⟩)]],rfl,⟨by decide,by decide,rfl⟩,zt1 w.heap.size ev,rfl,?_⟩;subst hs;refine⟨?_,?_,?_,?_,?_,?_⟩
 ·rw [sV];rfl
 ·exact qB _ (zb (show Below _ _ _ from hev▸hbV) (zu w _))
 ·exact qB _ fV
 ·rw [show w.heap.size+2=V.heap.size from sV.symm];exact zu _ _
 ·rw [wz,sV]
 ·exact (((zba w _)).trans (hbV.mono (by omega))).alloc (by omega) _
end
def okL (p:Prg):List Bool:=[zdL p.name,zd4 p,decide (1<=p.threads.length)&&(decide (p.threads.length<=4)&&p.threads.all fun l=>decide (l.length<=12)),p.threads.all (fun l=>qy l p.locs.length),
 decide (p.ask=1)||(decide (p.ask=2)||decide (p.ask=3)),zau p.threads.length p.locs.length 20 p.cond]
theorem zns {p:Prg}:zc6 p=(okL p).all id:=by
 unfold zc6 okL;simp only [UA,List.all_nil,Bool.and_true,id]
theorem zj0 {B:Nat} {p:Prg} {vs:List Value} {w:Wd} (hB:B<=w.heap.size) (hp:PrgV B w vs p) (hG:GlobC w) :
  Calls PG 11 #[.agg vs.toArray] w fun e w'=>∃ n:Int,e = .returned (i64 n)/\(n=0↔zc6 p=true)/\Bw w w':=by
 obtain⟨hl,p1,c1,p2,c2,p3,c3,p4,c4,rfl,h1,h2,h3,h4,h5⟩:=hp;refine zI 18 [.agg (zag p p1 c1 p2 c2 p3 c3 p4 c4).toArray] Tryz.func11 ?_;obtain⟨L,hL⟩:=nm (w.heap.size);have hn:=zu w (.cells (Value.agg (zag p p1 c1 p2 c2 p3 c3 p4 c4).toArray).cells 29);have hs:=wz w (.cells (Value.agg (zag p p1 c1 p2 c2 p3 c3 p4 c4).toArray).cells 29);have hb:Bw w (w.alloc (.cells (Value.agg (zag p p1 c1 p2 c2 p3 c3 p4 c4).toArray).cells 29)):=zba w _;refine cmo zoT ?_;rintro e V ⟨rfl,hbx,hev,hsl,hsz,hbV⟩;have hbw:Bw w V:=zst hb hbV;have p1':some (Value.slice (some ⟨(w.alloc (.cells (Value.agg (zag p p1 c1 p2 c2 p3 c3 p4 c4).toArray).cells 29)).heap.size+2,0,none⟩) 6 6)=some (Value.slice (some ⟨L+3,0,none⟩) 6 6):=by rw [hs,hL]
 have hD:DmV B V L (L+1) p:=by
  have hbB:=hbw.mono hB;rw [hs,<- hL] at hbx;refine⟨UO hB hbw.size,by omega,hl,⟨p1,c1,p2,c2,p3,c3,p4,c4,za (zb hbV (hL▸hn)),h1.below hbB,h2.below hbB,h3.below hbB,h4.kept hbB,h5⟩,hbx,hG.below hbw⟩
 rw [hs,<- hL] at hev hsl;clear hn hs hb hbx hbV hsz;refine⟨Nat,fun j=>⟨[(5,.slice (some ⟨L+3,0,none⟩) 6 6),(6,i64 6),(7,i64 (j:Nat))],[]⟩,
  fun j X=>j<=6/\(∀ i,i<j->(okL p)[i]?=some true)/\DmV B X L (L+1) p/\X.heap[L+2]?=some (.cells #[evV (L+1)] 121 (0,0))/\X.heap[L+3]?=some (.cells (zt1 (L+1) (L+2)).toArray 87 (0,0))/\Bw w X,fun j=>6-j,0,
  ⟨.cons p1' (.cons rfl (.cons rfl .nil)),rfl⟩,⟨Gb _,fun i hi=>by omega,hD,hev,hsl,hbw⟩,?_⟩
 clear hD hev hsl hbw p1';rintro j X ⟨hj,hpre,hD,hev,hsl,hbw⟩;dsimp only at hj hpre ⊢;refine biE (fun hc=>?_) fun hc=>?_
 ·have hc:(j:Int)<6:=dT hc;have hno:∀ {i:Nat},(okL p)[i]?=some false->zc6 p=false:=fun h=>by rw [zns];exact zq4 h
  have hcs:j=0\/j=1\/j=2\/j=3\/j=4\/j=5:=by omega
  rcases hcs with rfl | rfl | rfl | rfl | rfl | rfl
  ·refine⟨0,rfl,by decide,?_⟩;refine⟨[i64 70,.func (.func 59) #[] #[At0 (L+1)]],rfl,zT (n:=0) (m:=2) (za hsl),hlt hsl,zo (X:=X) (v := .agg [i64 70,.func (.func 59) #[] #[At0 (L+1)]].toArray) k87 rfl rfl rfl fun Y hbY fY sY=>?_⟩;have hY:=hD.below hbY;have hevY:=zb hbY hev;have hslY:=zb hbY hsl;refine⟨_,zc (za fY) (i:=1) rfl,cmo (zt7 hY) ?_⟩;rintro e W ⟨rfl,hbW⟩;have hbX:Bw w W:=((zst hbw hbY)).trans (hbW.mono (UO hbw.size hbY.size));refine biE (fun hb=>?_) fun hb=>?_
   ·have hb:(!((okL p)[0]'(by show 0<6;decide)))=true:=hb;have hb:(okL p)[0]?=some false:=(by rw [gE (by show 0<6;decide)];exact Gl some (by rw [<- UH ((okL p)[0]'(by show 0<6;decide)),hb];rfl));exact⟨_,zc (za (zb hbW fY)) (i:=0) rfl,70,rfl,⟨fun h=>Gs h (by decide),fun h=>by rw [hno hb] at h;cases h⟩,hbX⟩
   ·have hb:(!((okL p)[0]'(by show 0<6;decide)))=false:=hb;have hb:(okL p)[0]?=some true:=(by rw [gE (by show 0<6;decide)];exact Gl some (by rw [<- UH ((okL p)[0]'(by show 0<6;decide)),hb];rfl));refine⟨_,(ze (by omega)).trans rfl,1,(cvE rfl rfl),⟨by omega,fun i hi=>?_,hY.below hbW,zb hbW hevY,zb hbW hslY,hbX⟩,by decide⟩;by_cases hik:i=0
    ·rw [hik];exact hb
    ·exact hpre i (by omega)
  ·refine⟨1,rfl,by decide,?_⟩;refine⟨[i64 71,.func (.func 61) #[] #[At0 (L+1)]],rfl,zT (n:=2) (m:=2) (za hsl),hlt hsl,zo (X:=X) (v := .agg [i64 71,.func (.func 61) #[] #[At0 (L+1)]].toArray) k87 rfl rfl rfl fun Y hbY fY sY=>?_⟩;have hY:=hD.below hbY;have hevY:=zb hbY hev;have hslY:=zb hbY hsl;refine⟨_,zc (za fY) (i:=1) rfl,cmo (zt6 hY) ?_⟩;rintro e W ⟨rfl,hbW⟩;have hbX:Bw w W:=((zst hbw hbY)).trans (hbW.mono (UO hbw.size hbY.size));refine biE (fun hb=>?_) fun hb=>?_
   ·have hb:(!((okL p)[1]'(by show 1<6;decide)))=true:=hb;have hb:(okL p)[1]?=some false:=(by rw [gE (by show 1<6;decide)];exact Gl some (by rw [<- UH ((okL p)[1]'(by show 1<6;decide)),hb];rfl));exact⟨_,zc (za (zb hbW fY)) (i:=0) rfl,71,rfl,⟨fun h=>Gs h (by decide),fun h=>by rw [hno hb] at h;cases h⟩,hbX⟩
   ·have hb:(!((okL p)[1]'(by show 1<6;decide)))=false:=hb;have hb:(okL p)[1]?=some true:=(by rw [gE (by show 1<6;decide)];exact Gl some (by rw [<- UH ((okL p)[1]'(by show 1<6;decide)),hb];rfl));refine⟨_,(ze (by omega)).trans rfl,2,(cvE rfl rfl),⟨by omega,fun i hi=>?_,hY.below hbW,zb hbW hevY,zb hbW hslY,hbX⟩,by decide⟩;by_cases hik:i=1
    ·rw [hik];exact hb
    ·exact hpre i (by omega)
  ·refine⟨2,rfl,by decide,?_⟩;refine⟨[i64 72,.func (.func 63) #[] #[At0 (L+1),At0 (L+2)]],rfl,zT (n:=4) (m:=2) (za hsl),hlt hsl,zo (X:=X) (v := .agg [i64 72,.func (.func 63) #[] #[At0 (L+1),At0 (L+2)]].toArray) k87 rfl rfl rfl fun Y hbY fY sY=>?_⟩;have hY:=hD.below hbY;have hevY:=zb hbY hev;have hslY:=zb hbY hsl;refine⟨_,zc (za fY) (i:=1) rfl,cmo (zt5 hY hevY) ?_⟩;rintro e W ⟨rfl,hbW⟩;have hbX:Bw w W:=((zst hbw hbY)).trans (hbW.mono (UO hbw.size hbY.size));refine biE (fun hb=>?_) fun hb=>?_
   ·have hb:(!((okL p)[2]'(by show 2<6;decide)))=true:=hb;have hb:(okL p)[2]?=some false:=(by rw [gE (by show 2<6;decide)];exact Gl some (by rw [<- UH ((okL p)[2]'(by show 2<6;decide)),hb];rfl));exact⟨_,zc (za (zb hbW fY)) (i:=0) rfl,72,rfl,⟨fun h=>Gs h (by decide),fun h=>by rw [hno hb] at h;cases h⟩,hbX⟩
   ·have hb:(!((okL p)[2]'(by show 2<6;decide)))=false:=hb;have hb:(okL p)[2]?=some true:=(by rw [gE (by show 2<6;decide)];exact Gl some (by rw [<- UH ((okL p)[2]'(by show 2<6;decide)),hb];rfl));refine⟨_,(ze (by omega)).trans rfl,3,(cvE rfl rfl),⟨by omega,fun i hi=>?_,hY.below hbW,zb hbW hevY,zb hbW hslY,hbX⟩,by decide⟩;by_cases hik:i=2
    ·rw [hik];exact hb
    ·exact hpre i (by omega)
  ·refine⟨3,rfl,by decide,?_⟩;refine⟨[i64 73,.func (.func 65) #[] #[At0 (L+2),At0 (L+1)]],rfl,zT (n:=6) (m:=2) (za hsl),hlt hsl,zo (X:=X) (v := .agg [i64 73,.func (.func 65) #[] #[At0 (L+2),At0 (L+1)]].toArray) k87 rfl rfl rfl fun Y hbY fY sY=>?_⟩;have hY:=hD.below hbY;have hevY:=zb hbY hev;have hslY:=zb hbY hsl;refine⟨_,zc (za fY) (i:=1) rfl,cmo (zt4 hY hevY) ?_⟩;rintro e W ⟨rfl,hbW⟩;have hbX:Bw w W:=((zst hbw hbY)).trans (hbW.mono (UO hbw.size hbY.size));refine biE (fun hb=>?_) fun hb=>?_
   ·have hb:(!((okL p)[3]'(by show 3<6;decide)))=true:=hb;have hb:(okL p)[3]?=some false:=(by rw [gE (by show 3<6;decide)];exact Gl some (by rw [<- UH ((okL p)[3]'(by show 3<6;decide)),hb];rfl));exact⟨_,zc (za (zb hbW fY)) (i:=0) rfl,73,rfl,⟨fun h=>Gs h (by decide),fun h=>by rw [hno hb] at h;cases h⟩,hbX⟩
   ·have hb:(!((okL p)[3]'(by show 3<6;decide)))=false:=hb;have hb:(okL p)[3]?=some true:=(by rw [gE (by show 3<6;decide)];exact Gl some (by rw [<- UH ((okL p)[3]'(by show 3<6;decide)),hb];rfl));refine⟨_,(ze (by omega)).trans rfl,4,(cvE rfl rfl),⟨by omega,fun i hi=>?_,hY.below hbW,zb hbW hevY,zb hbW hslY,hbX⟩,by decide⟩;by_cases hik:i=3
    ·rw [hik];exact hb
    ·exact hpre i (by omega)
  ·refine⟨4,rfl,by decide,?_⟩;refine⟨[i64 75,.func (.func 68) #[] #[At0 (L+1)]],rfl,zT (n:=8) (m:=2) (za hsl),hlt hsl,zo (X:=X) (v := .agg [i64 75,.func (.func 68) #[] #[At0 (L+1)]].toArray) k87 rfl rfl rfl fun Y hbY fY sY=>?_⟩;have hY:=hD.below hbY;have hevY:=zb hbY hev;have hslY:=zb hbY hsl;refine⟨_,zc (za fY) (i:=1) rfl,cmo (zt3 hY) ?_⟩;rintro e W ⟨rfl,hbW⟩;have hbX:Bw w W:=((zst hbw hbY)).trans (hbW.mono (UO hbw.size hbY.size));refine biE (fun hb=>?_) fun hb=>?_
   ·have hb:(!((okL p)[4]'(by show 4<6;decide)))=true:=hb;have hb:(okL p)[4]?=some false:=(by rw [gE (by show 4<6;decide)];exact Gl some (by rw [<- UH ((okL p)[4]'(by show 4<6;decide)),hb];rfl));exact⟨_,zc (za (zb hbW fY)) (i:=0) rfl,75,rfl,⟨fun h=>Gs h (by decide),fun h=>by rw [hno hb] at h;cases h⟩,hbX⟩
   ·have hb:(!((okL p)[4]'(by show 4<6;decide)))=false:=hb;have hb:(okL p)[4]?=some true:=(by rw [gE (by show 4<6;decide)];exact Gl some (by rw [<- UH ((okL p)[4]'(by show 4<6;decide)),hb];rfl));refine⟨_,(ze (by omega)).trans rfl,5,(cvE rfl rfl),⟨by omega,fun i hi=>?_,hY.below hbW,zb hbW hevY,zb hbW hslY,hbX⟩,by decide⟩;by_cases hik:i=4
    ·rw [hik];exact hb
    ·exact hpre i (by omega)
  ·refine⟨5,rfl,by decide,?_⟩;refine⟨[i64 74,.func (.func 69) #[] #[At0 (L+1)]],rfl,zT (n:=10) (m:=2) (za hsl),hlt hsl,zo (X:=X) (v := .agg [i64 74,.func (.func 69) #[] #[At0 (L+1)]].toArray) k87 rfl rfl rfl fun Y hbY fY sY=>?_⟩;have hY:=hD.below hbY;have hevY:=zb hbY hev;have hslY:=zb hbY hsl;refine⟨_,zc (za fY) (i:=1) rfl,cmo (zt2 hY) ?_⟩;rintro e W ⟨rfl,hbW⟩;have hbX:Bw w W:=((zst hbw hbY)).trans (hbW.mono (UO hbw.size hbY.size));refine biE (fun hb=>?_) fun hb=>?_
   ·have hb:(!((okL p)[5]'(by show 5<6;decide)))=true:=hb;have hb:(okL p)[5]?=some false:=(by rw [gE (by show 5<6;decide)];exact Gl some (by rw [<- UH ((okL p)[5]'(by show 5<6;decide)),hb];rfl));exact⟨_,zc (za (zb hbW fY)) (i:=0) rfl,74,rfl,⟨fun h=>Gs h (by decide),fun h=>by rw [hno hb] at h;cases h⟩,hbX⟩
   ·have hb:(!((okL p)[5]'(by show 5<6;decide)))=false:=hb;have hb:(okL p)[5]?=some true:=(by rw [gE (by show 5<6;decide)];exact Gl some (by rw [<- UH ((okL p)[5]'(by show 5<6;decide)),hb];rfl));refine⟨_,(ze (by omega)).trans rfl,6,(cvE rfl rfl),⟨by omega,fun i hi=>?_,hY.below hbW,zb hbW hevY,zb hbW hslY,hbX⟩,by decide⟩;by_cases hik:i=5
    ·rw [hik];exact hb
    ·exact hpre i (by omega)
 ·have hc:¬ (j:Int)<6:=dF hc;obtain rfl:j=6:=by omega
  exact⟨0,rfl,⟨fun _=>by rw [zns];exact zlF hpre rfl,fun _=>rfl⟩,hbw⟩
def ThrsW (B:Nat) (w:Wd) (p:OA) (l:List (List InsD)):Prop:=∃ xs:List zmP,xs.map (·.1)=l/\RowB zps B w p xs/\∀ x∈xs,RowB zD B w x.2.1 x.1/\(x.1≠[]->∀ a,x.2.1=some a->a.block<B)
structure PrgX (B:Nat) (w:Wd) (vs:List Value) (p:Prg):Prop where
 v:PrgV B w vs p
 th:∃ p3 c3,vs[3]?=some (.slice p3 p.threads.length c3)/\ThrsW B w p3 p.threads
 init:∃ p2 c2,vs[2]?=some (.slice p2 p.init.length c2)/\RowB zV B w p2 p.init
theorem ThrsW.below {B:Nat} {w w2:Wd} {p:OA} {l:List (List InsD)} (h:ThrsW B w p l) (hb:Below B w w2):ThrsW B w2 p l:=by
 obtain⟨xs,h1,h2,h3⟩:=h;exact⟨xs,h1,h2.below hb,fun x hx=>⟨(h3 x hx).1.below hb,(h3 x hx).2⟩⟩
theorem PrgX.below {B:Nat} {w w2:Wd} {vs:List Value} {p:Prg} (h:PrgX B w vs p) (hb:Below B w w2):PrgX B w2 vs p:=by
 obtain⟨h1,⟨p3,c3,h2,h3⟩,⟨p2,c2,h4,h5⟩⟩:=h;exact⟨h1.below hb,⟨p3,c3,h2,h3.below hb⟩,⟨p2,c2,h4,h5.below hb⟩⟩
theorem zgs {α:Type} {E:Enc α} {B:Nat} {w:Wd} {p:OA} {l:List α} (h:RowB E B w p l) {i:Nat} (hi:i<l.length):∃ b o,p=some ⟨b,o,none⟩/\b<B/\∀ i (h:i<l.length),zF w ⟨b,o+i*E.sz,none⟩ (E.enc l[i]):=by
 obtain⟨b,o,hp,hat⟩:=h.get;rcases hp with hp | hp
 ·omega
 ·exact⟨b,o,hp,(hat i hi).1,fun j hj=>(hat j hj).2⟩
section
variable {l:List InsD} {dom:List UInt8} {q p:OA} {cap cd:Nat} {w:Wd}
theorem zn6 (hl:SlR zD w q l) (hp:SlR zV w p dom) (hok:qy l 6=true) (hqb:l≠[]->∀ a,q=some a->a.block<w.heap.size) (hpb:∀ a,p=some a->a.block<w.heap.size) (hdl:dom.length<=1000) :
  Calls PG 73 #[.slice q l.length cap,.slice p dom.length cd] w fun e w'=>((∃ (p':OA) (c':Nat),(qC l dom).length<=4096/\e = .returned (.tuple #[.slice p' (zaF (qC l dom)).length c',.bool true])/\OwnS zV 5 w.heap.size w' p' c' (zaF (qC l dom)))\/(4096<(qC l dom).length/\e = .returned (.tuple #[.slice none 0 0,.bool false])))/\Bw w w':=by
 have ht:=zlT hok;have h12:l.length<=12:=ht.1;have hR:∀ R∈qC l dom,R.many<=24:=fun R h=>(zgB ht dom R h).1;refine qj 55 [.slice q l.length cap,.slice p dom.length cd] (.c .p (.c .p (.c .p (.c .p (.s .p (.c .p .p)))))) Tryz.func73 ?_;obtain⟨L,hL⟩:=nm (w.heap.size);refine⟨Unit,fun _=>⟨[(0,.slice q l.length cap),(1,.slice p dom.length cd),(4,AtR L),(5,AtR (L+1))],[]⟩,fun _ X=>X.heap[L]?=some (.cells #[.slice none 0 0] 23 (0,0))/\X.heap[L+1]?=some (.cells #[.bool false] 4 (0,0))/\X.heap.size=L+2/\Bw w X,?_,?_⟩
 ·have s1:=wz w (.cells #[.slice none 0 0] 23);have h2:=zu (w.alloc (.cells #[.slice none 0 0] 23)) (.cells #[.bool false] 4);have s2:=wz (w.alloc (.cells #[.slice none 0 0] 23)) (.cells #[.bool false] 4);rw [s1] at h2 s2;refine⟨(),⟨.cons rfl (.cons rfl (.cons (by rw [hL];rfl) (.cons (by rw [hL,<- s1];rfl) .nil))),rfl⟩,?_,?_,?_,?_⟩
  ·rw [hL];exact qB _ (zu w _)
  ·rw [hL];exact h2
  ·rw [hL];exact s2
  ·exact ((zba w _)).alloc (by simp) _
 rintro _ X ⟨f0,f1,sX,hbX⟩;refine⟨Unit,fun _=>⟨[(0,.slice q l.length cap),(1,.slice p dom.length cd),(4,AtR L),(5,AtR (L+1)),(6,AtR (L+2))],[]⟩,fun _ Y=>Y.heap[L+2]?=some (.cells (wrC fun _=>false).toArray 178 (0,0))/\Y.heap.size=L+3/\Bw X Y,?_,?_⟩
 ·refine⟨(),⟨.cons rfl (.cons rfl (.cons rfl (.cons rfl (.cons (by rw [<- sX];rfl) .nil)))),rfl⟩,?_,?_,?_⟩
  ·rw [<- sX,<- zu5];exact zu X _
  ·have:=wz X (.cells (List.replicate 256 (Value.bool false)).toArray 178);rw [sX] at this;exact this
  ·exact (zba X _)
 rintro _ Y ⟨f2,sY,hbY⟩;refine⟨Unit,fun _=>⟨[(0,.slice q l.length cap),(1,.slice p dom.length cd),(4,AtR L),(5,AtR (L+1)),(6,AtR (L+2)),(7,AtR (L+3))],[]⟩,fun _ Z=>Z.heap[L+3]?=some (.cells [i64 (0:Nat)].toArray 3 (0,0))/\Z.heap.size=L+4/\Bw Y Z,?_,?_⟩
 ·refine zo (X:=Y) (v:=i64 0) k3 rfl rfl rfl fun Z hbZ fZ sZ=>?_;rw [sY] at fZ sZ;exact⟨(),⟨.cons rfl (.cons rfl (.cons rfl (.cons rfl (.cons rfl (.cons (by rw [<- sY];rfl) .nil))))),rfl⟩,fZ,sZ,hbZ⟩
 rintro _ V ⟨f3,sV,hbV⟩;have hXV:Bw X V:=zst hbY hbV;have hwV:=zst hbX hXV;have f0:=zb hXV f0;have f1:=zb hXV f1;have f2:=zb hbV f2;clear hbX hbY hbV hXV;obtain⟨xs,hxs⟩:=nm (qC l dom);rw [<- hxs] at hR ⊢;refine⟨Nat,fun D1=>⟨[(4,AtR L),(5,AtR (L+1)),(6,AtR (L+2))],[{ target := .collected D1,args := #[] }]⟩,fun D1 U=>xs.length<=4096/\U.heap[L+2]?=some (.cells (wrC (wrL xs)).toArray 178 (0,0))/\U.heap[D1]?=some (.deferred (some []))/\L+2<D1/\Below (L+2) V U,?_,?_⟩
 ·refine cmo zjL ?_;rintro e W ⟨rfl,fi,fd,sW,hbW⟩;have hwW:=zst hwV hbW;have hI:=zjK (q:=q) (p:=p) (hl.below hwW) (hp.below hwW) fi fd (fun hne a ha=>by have:=hqb hne a ha;have:=hwW.size;omega) (fun a ha=>by have:=hpb a ha;have:=hwW.size;omega) ht hdl;rw [<- hxs] at hI;obtain⟨J,hJ⟩:∃ J:List RunD->Wd->Prop,J=fun pre Y=>W.heap.size<=Y.heap.size/\pre.length<=4096/\Y.heap[L+2]?=some (.cells (wrC (wrL pre)).toArray 178 (0,0))/\Y.heap[L+3]?=some (.cells [i64 pre.length].toArray 3 (0,0))/\Below (L+2) W Y:=⟨_,rfl⟩;obtain⟨F0,hF0⟩:∃ F0:Nat->Prop,F0=fun k=>k=L+2\/k=L+3\/k=L\/k=L+1:=⟨_,rfl⟩;have f0W:=zb hbW f0;have f1W:=zb hbW f1;refine zdg (zbB _) rfl (lb := #[AtR V.heap.size,AtR (V.heap.size+1)]) rfl rfl hI (UY _) (fun k hk=>⟨?_,rfl⟩) (fun pre vs W ⟨R,b,_,h,_⟩=>by rw [h];rfl) (by decide)
   F0 (fun pre F Y=>F=F0/\J pre Y) (fun ex pre F Y=>F=F0/\W.heap.size<=Y.heap.size/\ex = .ret/\4096<xs.length/\Y.heap[L]?=some (.cells #[.slice none 0 0] 23 (0,0))/\Y.heap[L+1]?=some (.cells #[.bool false] 4 (0,0))/\Below L W Y) (fun k hk=>?_)
   (joG (F:=F0) (J:=J) (fun k h=>by rw [hF0] at h;omega) (fun s A h=>by rw [hJ] at h;exact h.1) (fun pre A B h hb=>by
    rw [hJ] at h ⊢;obtain⟨h1,h0,h2,h3,h4⟩:=h;exact⟨UO h1 hb.size,h0,jo hb (by omega) h2,jo hb (by omega) h3,h4.trans (hb.mono (by omega))⟩))
   (fun ex=>joG (F:=F0) (J:=fun (pre:List RunD) Y=>W.heap.size<=Y.heap.size/\ex = .ret/\4096<xs.length/\Y.heap[L]?=some (.cells #[.slice none 0 0] 23 (0,0))/\Y.heap[L+1]?=some (.cells #[.bool false] 4 (0,0))/\Below L W Y) (fun k h=>by rw [hF0] at h;omega) (fun s A h=>h.1) (fun pre A B ⟨h1,h2,h3,h4,h5,h6⟩ hb=>⟨UO h1 hb.size,h2,h3,jo hb (by omega) h4,jo hb (by omega) h5,h6.trans (hb.mono (by omega))⟩)) ⟨rfl,by rw [hJ];exact⟨UY _,Gb _,zb hbW f2,zb hbW f3,Gd _ _⟩⟩ ?_ ?_ ?_
  ·rcases hk with ((rfl | rfl) | ⟨hne,a,ha,rfl⟩ | ⟨a,ha,rfl⟩) | h
   ·omega
   ·omega
   ·have:=hqb hne a ha;have:=hwW.size;omega
   ·have:=hpb a ha;have:=hwW.size;omega
   ·exact h.elim
  ·rw [hF0];rcases hk with (rfl | rfl) | ⟨hne,a,ha,rfl⟩ | ⟨a,ha,rfl⟩
   ·omega
   ·omega
   ·have:=hqb hne a ha;omega
   ·have:=hpb a ha;omega
  ·rintro yl pre x vs F Y hyl hpre hJ0 ⟨R,b,hlast,rfl,fR⟩ hfy ⟨lo,hlo⟩;have hxR:x=R:=by simpa using hlast
   subst hxR;refine⟨rfl,F,KeepsG.refl _ _,hJ0,?_⟩;rintro o Y2 hY2 ⟨rfl,hJ2⟩;rw [hJ] at hJ2;obtain⟨h1,h0,h2,h3,h4⟩:=hJ2;have hbl:b≠yl:=fun e=>by
    rw [e] at fR;rw [fR] at hlo
    cases hlo
   have fR2:jx Y2 b x:=by rw [hY2];exact (zj hbl).trans fR
   have r1:=hR x (hpre.subset (by simp));have hpl:pre.length<xs.length:=by
    obtain⟨t,ht⟩:=hpre;rw [<- ht];simp only [lap,Qs];omega
   refine⟨_,zc (za h3) (i:=0) rfl,?_⟩;refine biE (fun hct=>?_) fun hct=>?_
   ·have hct:(pre.length:Int)=4096:=dT hct;have g0:Y2.heap[L]?=some (.cells #[.slice none 0 0] 23 (0,0)):=(h4.block L (by omega)).trans f0W;have g1:Y2.heap[L+1]?=some (.cells #[.bool false] 4 (0,0)):=(h4.block (L+1) (by omega)).trans f1W;refine zn k23 g0 (o:=0) (v := .slice none 0 0) rfl rfl (by show 0<1;decide) rfl fun Z1 fZ1 gZ1 sZ1=>?_;have g1':=(gZ1.block (L+1) (hlt g1) (by simp)).trans g1;refine zn k4 g1' (o:=0) (v := .bool false) rfl rfl (by show 0<1;decide) rfl fun Z2 fZ2 gZ2 sZ2=>?_;refine⟨F,⟨rfl,by omega,rfl,by omega,(gZ2.block L (hlt fZ1) (by simp)).trans fZ1,fZ2,?_⟩,(KeepsG.grown (F:=F) gZ1 (by rw [hF0];exact .inr (.inr (.inl rfl)))).trans (KeepsG.grown (F:=F) gZ2 (by rw [hF0];exact .inr (.inr (.inr rfl))))⟩;exact ((h4.mono (by omega)).trans (zk gZ1 (by omega) (UY _))).trans (zk gZ2 (by omega) (by omega))
   have hct:¬ (pre.length:Int)=4096:=dF hct;refine⟨_,zc (za h3) (i:=0) rfl,?_⟩;refine⟨((pre.length+1:Nat):Int),(ze (by omega)).trans (by omega),?_⟩;refine zn k3 h3 (o:=0) (v:=i64 (pre.length+1:Nat)) rfl rfl (by show 0<1;decide) rfl fun Z fZ gZ sZ=>?_;have fRZ:jx Z b x:=(gZ.block b (hlt fR2) (fun e=>by
    have e:b=L+3:=(by simpa using e);rw [e] at fR2;rw [fR2] at h3;simp at h3)).trans fR2
   have f2Z:=(gZ.block (L+2) (hlt h2) (by simp)).trans h2;have kZ:KeepsG F F Y2 Z:=KeepsG.grown gZ (by rw [hF0];exact .inr (.inl rfl));have bZ:Below (L+2) W Z:=h4.trans (zk gZ (by omega) (by omega));refine DrawE.ord [] [0,1,2,3,4,5,6,7,8,9] (by kernel_rfl) ?_;have hdZ:Bw Z Z.drew:=(Gd _ _).drew;refine⟨_,zc (za (hdr fRZ)) (i:=18) (zbI x),?_⟩;refine⟨x.many,rfl,r1,?_⟩;have ecut:jj (some ⟨b,0+19,none⟩) 24 0 7=some ⟨b,19,none⟩:=by rw [zcZ,US]
   refine⟨Nat,fun i=>⟨[(6,AtR (L+2)),(7,AtR (L+3)),(29,.slice (some ⟨b,19,none⟩) (x.many-0) (24-0)),(30,i64 (x.many:Nat)),(31,i64 (i:Nat))],[]⟩,
    fun i T=>i<=x.many/\T.heap[L+2]?=some (.cells (wrC fun v=>wrL pre v||wrE x i v).toArray 178 (0,0))/\jx T b x/\T.heap[L+3]?=some (.cells [i64 (pre.length+1:Nat)].toArray 3 (0,0))/\KeepsG F F Y2 T/\Below (L+2) W T,fun i=>x.many-i,0,
    ⟨.cons rfl (.cons rfl (.cons (by rw [<- ecut];rfl) (.cons rfl (.cons rfl .nil)))),rfl⟩,⟨Gb _,?_,hdr fRZ,hdr fZ,kZ.trans (KeepsG.below hdZ fun k h => .inl h),bZ.drew⟩,?_⟩
   ·have e:(fun v=>wrL pre v||wrE x 0 v)=wrL pre:=by
     funext v;show (wrL pre v||false)=_;rw [Ux]
    rw [e];exact f2Z
   rintro i T ⟨hi,t2,tR,t3,kT,bT⟩;have hTs:=kT.size;refine biE (fun hc=>?_) fun hc=>?_
   ·have hc:(i:Int)<(x.many:Int):=dT hc;have him:i<x.many:=(by omega);refine⟨i,rfl,him,?_⟩;have hev:zF T ⟨b,19+i*7,none⟩ (evE.enc (x.ev i)):=by
     have:=zT (n:=i*7) (m:=7) (zm3 tR);rw [zqv x.ev (show i<24 by omega)] at this;exact this
    refine⟨evE.enc (x.ev i),rfl,hev,hlt tR,?_⟩;refine zo (X:=T) (v := .agg (evE.enc (x.ev i)).toArray) k49 rfl rfl rfl fun T2 hb2 fT2 sT2=>?_;have k2:KeepsG F F Y2 T2:=kT.trans (KeepsG.below hb2 fun k h => .inl h);have b2:Below (L+2) W T2:=bT.trans (hb2.mono (by omega));have n1:=zph x i;refine⟨_,zc (za fT2) (i:=1) rfl,?_⟩;have u2:=zb hb2 t2;have uR:=zb hb2 tR;have u3:=zb hb2 t3;refine biE (fun hk=>?_) fun hk=>?_
    ·have hk:(x.ev i).k=2:=qr.1 (dT hk);refine⟨_,zc (za fT2) (i:=3) rfl,?_⟩;refine⟨((x.ev i).v).toNat,rfl,((x.ev i).v).toNat_lt,?_⟩;refine zn k4 u2 (o:=0+((x.ev i).v).toNat*1) (v := .bool true) rfl rfl (by rw [zmV];have:=((x.ev i).v).toNat_lt;omega) rfl fun T3 fT3 gT3 sT3=>?_;rw [US,UZ,zrm] at fT3;have k3:KeepsG F F Y2 T3:=k2.trans (KeepsG.grown gT3 (by rw [hF0];exact .inl rfl));have hT2s:=k2.size;refine nxI (by omega) ?_;refine⟨i+1,(cvE rfl rfl),⟨him,?_,(gT3.block b (hlt uR) (fun e=>by
      have e:b=L+2:=(by simpa using e);rw [e] at uR;rw [uR] at u2;simp at u2)).trans uR,(gT3.block (L+3) (hlt u3) (by simp)).trans u3,k3,b2.trans (zk gT3 (by omega) (UY _))⟩,zdc (by omega)⟩
     have e:(fun v=>wrL pre v||wrE x (i+1) v)=fun v=>(wrL pre v||wrE x i v)||decide ((x.ev i).v=v):=by
      funext v;rw [n1,Us hk,Uy,Bool.or_assoc]
     rw [e];exact fT3
    ·have hk:¬ (x.ev i).k=2:=fun e=>(dF hk) (by rw [e];rfl);refine nxI (by omega) ?_;refine⟨i+1,(cvE rfl rfl),⟨him,?_,uR,u3,k2,b2⟩,zdc (by omega)⟩;have e:(fun v=>wrL pre v||wrE x (i+1) v)=fun v=>(wrL pre v||wrE x i v):=by
      funext v;rw [n1,Uh hk,Uj,Ux]
     rw [e];exact u2
   ·have hc:¬ (i:Int)<(x.many:Int):=dF hc;obtain rfl:i=x.many:=(by omega);refine⟨F,⟨rfl,?_⟩,kT⟩;rw [hJ];refine⟨by omega,by rw [lap];show pre.length+1<=4096;omega,?_,by rw [lap];exact t3,bT⟩;have e:wrL (pre++[x])=fun v=>wrL pre v||wrE x x.many v:=by
     funext v;exact zpf pre x v
    rw [e];exact t2
  ·rintro D1 F Y hD hfD ⟨rfl,hj⟩ hdef;rw [hJ] at hj;obtain⟨h1,h0,h2,h3,h4⟩:=hj;exact⟨D1,(cvE rfl rfl),h0,h2,hdef,by omega,(hbW.mono (by omega)).trans h4⟩
  ·rintro D ex pre F Y hD hfD hpre ⟨rfl,h1,rfl,hlong,g0,g1,hbY⟩ hdef;refine⟨_,rfl,hdef,?_⟩;refine⟨.slice none 0 0,zc (za ((zj (by omega)).trans g0)) (i:=0) rfl,.bool false,zc (za ((zj (by omega)).trans g1)) (i:=0) rfl,.inr ⟨hlong,rfl⟩,?_⟩;have hwY:=hwW.trans (hbY.mono (by omega));exact qP hwY (by have:=hwV.size;omega) _
 clear f2 f3;rintro D1 U ⟨hm,f2,fD1,hLD,bU⟩;have f0:U.heap[L]?=some (.cells #[.slice none 0 0] 23 (0,0)):=(bU.block L (by omega)).trans f0;have f1:U.heap[L+1]?=some (.cells #[.bool false] 4 (0,0)):=(bU.block (L+1) (by omega)).trans f1;have hwU:Bw w U:=hwV.trans (bU.mono (by omega));have sU:=hlt f2;have sD:=hlt fD1;clear bU hwV;refine⟨List UInt8×OA×Nat,fun s=>⟨[(4,AtR L),(5,AtR (L+1)),(11,.slice s.2.1 s.1.length s.2.2)],[{ target := .collected D1,args := #[] }]⟩,fun s Z=>s.1=zaF xs/\OwnS zV 5 U.heap.size Z s.2.1 s.2.2 s.1/\Bw U Z,?_,?_⟩
 ·refine⟨wrC (wrL xs),zmV _,za f2,hlt f2,?_⟩;refine⟨Nat×OA×Nat,fun s=>⟨[(4,AtR L),(5,AtR (L+1)),(11,.slice s.2.1 ((z5.take s.1).filter (wrL xs)).length s.2.2),(42,.agg (wrC (wrL xs)).toArray),(43,i64 (s.1:Nat))],[{ target := .collected D1,args := #[] }]⟩,
   fun s Z=>s.1<=256/\OwnS zV 5 U.heap.size Z s.2.1 s.2.2 ((z5.take s.1).filter (wrL xs))/\Bw U Z,fun s=>256-s.1,(0,none,0),
   (cvE rfl rfl),⟨Gb _,OwnS.nil,Gd _ _⟩,?_⟩
  rintro⟨k,r,c⟩ Z ⟨hk,ho,hbZ⟩;dsimp only at hk ho ⊢;have hZs:=hbZ.size;refine biE (fun hc=>?_) fun hc=>?_
  ·have hc:(k:Int)<256:=dT hc;have hk2:k<256:=by omega
   have tk:z5.take (k+1)=z5.take k++[UInt8.ofNat k]:=by
    obtain⟨hlb,hbk⟩:=zqS hk2;rw [tsg hlb,hbk]
   have fl:(z5.take (k+1)).filter (wrL xs)=(z5.take k).filter (wrL xs)++(if wrL xs (UInt8.ofNat k)=true then [UInt8.ofNat k] else []):=by
    rw [tk,Kv,zmt]
   have hfl:((z5.take k).filter (wrL xs)).length<=256:=by
    have h1:=JM (wrL xs) (z5.take k);rw [Qu] at h1;omega
   refine⟨k,rfl,hk2,?_⟩;refine zay (by rw [UZ];exact zlQ _ hk2) ?_;refine biE (fun hv=>?_) fun hv=>?_
   ·rw [Gr hv] at fl;refine⟨_,w8N k,?_⟩;refine⟨⟨by decide,by decide,rfl⟩,zV.enc (UInt8.ofNat k),rfl,?_⟩;have hba:Bw Z (Z.alloc (.cells (zV.enc (UInt8.ofNat k)).toArray 5)):=zba _ _;refine jF (E:=zV) (T:=5) (B:=U.heap.size) (l:=(z5.take k).filter (wrL xs)) (news:=[UInt8.ofNat k]) (cap:=c) (m:=1) Tryz.underlying23 k5 rfl rfl rfl (ho.below hba) rfl (qS zV (UInt8.ofNat k)) (by have:=hba.size;omega) (by omega) (by show (((z5.take k).filter (wrL xs)).length+1)*1<=_;omega) ?_;intro p2 c2 T oT gT hbT hat;refine nxI (by omega) ?_;refine⟨(k+1,p2,c2),⟨.cons rfl (.cons rfl (.cons (by rw [fl];rfl) (.cons rfl (.cons rfl .nil)))),rfl⟩,⟨hk2,by show OwnS zV _ _ _ _ _ ((z5.take (k+1)).filter (wrL xs));rw [fl];exact oT,(hbZ.trans (hba.mono hZs)).trans hbT⟩,zdc (by omega)⟩
   ·have hv:wrL xs (UInt8.ofNat k)=false:=hv;rw [hv,Gq Ku,QK] at fl;refine nxI (by omega) ?_;exact⟨(k+1,r,c),⟨.cons rfl (.cons rfl (.cons (by rw [fl];rfl) (.cons rfl (.cons rfl .nil)))),rfl⟩,⟨hk2,by show OwnS zV _ _ _ _ _ ((z5.take (k+1)).filter (wrL xs));rw [fl];exact ho,hbZ⟩,zdc (by omega)⟩
  ·have hc:¬ (k:Int)<256:=dF hc;obtain rfl:k=256:=by omega
   have e:(z5.take 256).filter (wrL xs)=zaF xs:=by
    rw [zlN,JH (by unfold z5;rw [QN,KV];exact UY _)]
   rw [e] at ho;exact⟨(zaF xs,r,c),⟨.cons rfl (.cons rfl (.cons (by rw [e];rfl) .nil)),rfl⟩,rfl,ho,hbZ⟩
 rintro⟨ys,r,c⟩ Z ⟨rfl,ho,hbZ⟩;dsimp only at ho ⊢;have hZs:=hbZ.size;have g0:=zb hbZ f0;have g1:=zb hbZ f1;have gD:=zb hbZ fD1;refine zn k23 g0 (o:=0) (v := .slice r (zaF xs).length c) rfl rfl (by show 0<1;decide) rfl fun Z1 fZ1 gZ1 sZ1=>?_;have g1':=(gZ1.block (L+1) (hlt g1) (by simp)).trans g1;refine zn k4 g1' (o:=0) (v := .bool true) rfl rfl (by show 0<1;decide) rfl fun Z2 fZ2 gZ2 sZ2=>?_;have k2:∀ k,k<Z.heap.size->k≠L->k≠L+1->Z2.heap[k]?=Z.heap[k]?:=fun k hk n1 n2=>(gZ2.block k (by rw [sZ1];exact hk) (by simpa using n2)).trans (gZ1.block k hk (by simpa using n1));have fZ1':=(gZ2.block L (hlt fZ1) (by simp)).trans fZ1;refine⟨_,rfl,(k2 D1 (hlt gD) (by omega) (by omega)).trans gD,?_⟩;refine⟨.slice r (zaF xs).length c,?_,.bool true,?_,.inl ⟨r,c,hm,rfl,?_⟩,?_⟩
 ·exact zc (za ((zj (by omega)).trans fZ1')) (i:=0) rfl
 ·exact zc (za ((zj (by omega)).trans fZ2)) (i:=0) rfl
 ·refine OwnS.lower (ho.same fun a ha=>?_) hwU.size;have h:=zaJ ho ha;exact (zj (by omega)).trans (k2 _ h.2.1 (by omega) (by omega))
 ·have hwZ:=zst hwU hbZ;exact qP ((hwZ.trans (zk gZ1 hwZ.size (by omega))).trans (zk gZ2 (by rw [sZ1];exact hwZ.size) (by omega))) (by omega) _
end
structure OkG (p:Prg):Prop where
 l1:1<=p.locs.length
 l6:p.locs.length<=6
 il:p.locs.length=p.init.length
 t1:1<=p.threads.length
 t4:p.threads.length<=4
 th:∀ l∈p.threads,qy l 6=true
 tl:∀ l∈p.threads,qy l p.locs.length=true
theorem OkG.i1 {p:Prg} (h:OkG p):1<=p.init.length:=by have:=h.l1;have:=h.il;omega
theorem OkG.i6 {p:Prg} (h:OkG p):p.init.length<=6:=by have:=h.l6;have:=h.il;omega
theorem zoL {x:InsD} {k k' n:Nat} (hk:k<=k') (h:zig x k n=true):zig x k' n=true:=by
 unfold zig qX at h ⊢;simp only [UA,List.all_nil,id_eq,Bool.and_true,bAT,dE,QH] at h ⊢;obtain⟨h1,h2,h3,h4,h5⟩:=h;exact⟨h1,h2,h3,h4.imp id (fun h=>nL h hk),h5⟩
theorem zjb {l:List InsD} {k k':Nat} (hk:k<=k') (h:qy l k=true):qy l k'=true:=by
 unfold qy at h ⊢;rw [bAT,dE,Qj] at h ⊢;refine⟨h.1,fun i hi=>?_⟩;have:=h.2 i hi
 split at this
 ·exact zoL hk this
 ·rfl
theorem zeO {p:Prg} (h:zc6 p=true):OkG p:=by
 unfold zc6 at h;simp only [bAT] at h;obtain⟨_,h2,⟨h4a,h4b,h5⟩,h6,_,h8⟩:=h;unfold zd4 at h2;simp only [bAT,dE] at h2 h4a h4b;have h7:=Qj.1 h6;exact⟨h2.1,h2.2.1,h2.2.2.1.symm,h4a,h4b,fun l hl=>zjb h2.2.1 (h7 l hl),h7⟩
def zik (threads:List (List InsD)):Nat->List UInt8->Option (List UInt8)
 | 0,_=>none
 | n+1,vals=>if 16<vals.length then none else if (threads.any fun l=>decide (4096<(qC l vals).length))=true then none else if (zby threads vals).length=vals.length then some vals else zik threads n (zby threads vals)
def zdD (p:Prg):Option (List UInt8):=zik p.threads 18 (jn p.init)
theorem zcY (l:List UInt8):jn (jn l)=jn l:=zjM (zhR l)
theorem ziV {l:List UInt8} (h:1<=l.length):1<=(jn l).length:=by
 cases l with
 | nil=>simp at h
 | cons x r=>exact List.length_pos_of_mem (zfK.2 (Kz ..))
theorem zj6 (rs:List RunD):(zaF rs).length<=256:=by
 refine UO (JM ..) ?_;unfold z5;rw [QN,KV];exact UY _
theorem znA {α β:Type} {g:α->List β} (hg:∀ a,(g a).length<=256):∀ l:List α,(l.flatMap g).length<=256*l.length
 | []=>UY _
 | a::l=>by
  rw [KS,lap,Qs];have:=hg a;have:=znA hg l;omega
theorem zqA {a b:List UInt8} (h:∀ x,x∈a->x∈b):(jn a).length<=(jn b).length:=by
 unfold jn;rw [<- List.countP_eq_length_filter,<- List.countP_eq_length_filter];refine List.countP_mono_left fun x _ hx=>?_;obtain⟨y,hy,e⟩:=Qk.1 hx;exact Qk.2 ⟨y,h y hy,e⟩
theorem ziR (ths:List (List InsD)) {vals:List UInt8} (h:jn vals=vals):vals.length<=(zby ths vals).length:=by
 unfold zby
 conv=>lhs;rw [<- h]
 exact zqA fun x hx=>JW _ hx
section
variable {B:Nat} {p:Prg} {pc:List Value} {w:Wd}
theorem zpa (hB:B<=w.heap.size) (hP:PrgX B w pc p) (hG:GlobE w) (hok:zc6 p=true) :
  Calls PG 29 #[.agg pc.toArray,i64 16] w fun e w'=>((∃ (V:List UInt8) (q:OA) (c:Nat),zdD p=some V/\e = .returned (.tuple #[.slice q V.length c,i64 0])/\OwnS zV 5 w.heap.size w' q c V)\/(zdD p=none/\e = .returned (.tuple #[.slice none 0 0,i64 5])))/\Bw w w':=by
 have hOP:=zeO hok;have hi1:=hOP.i1;have hi6:=hOP.i6;refine qj 60 [.agg pc.toArray,i64 16] (.c .p (.s .p (.c .p .p))) Tryz.func29 ?_;obtain⟨L,hL⟩:=nm (w.heap.size);have hpc:=hP.v.size;have hthr:=hP.v.len.threads;refine⟨Unit,fun _=>⟨[(1,i64 16),(2,AtR L)],[]⟩,fun _ X=>X.heap[L]?=some (.cells pc.toArray 29 (0,0))/\Bw w X,⟨(),⟨.cons rfl (.cons (by rw [hL];rfl) .nil),rfl⟩,by rw [hL];exact zu w _,(zba w _)⟩,?_⟩;rintro _ X ⟨f0,hbX⟩;refine brF (brF ⟨pc,hpc,za f0,hlt f0,cmo (zj0 (UO hB hbX.size) (hP.v.below (hbX.mono hB)) (hG.c.below hbX)) ?_⟩);rintro e Y ⟨m,rfl,hm,hbY⟩;have hm0:m=0:=hm.2 hok;subst hm0;refine brF ?_;have hwY:=zst hbX hbY;have f0:=zb hbY f0;obtain⟨_,⟨p3,c3,h3,xs,hxs,zdZ,hxr⟩,⟨p2,c2,h2,hinit⟩⟩:=hP;refine⟨OA×Nat,fun s=>⟨[(1,i64 16),(2,AtR L),(6,.slice s.1 (jn p.init).length s.2)],[]⟩,fun s Z=>OwnS zV 5 w.heap.size Z s.1 s.2 (jn p.init)/\Z.heap[L]?=some (.cells pc.toArray 29 (0,0))/\Bw w Z,?_,?_⟩
 ·refine⟨_,zc (za f0) (i:=2) (by simpa using h2),cmo (zds ((hinit.below (hwY.mono hB)).slr (UO hB hwY.size)) hi1 (by omega)) ?_⟩;rintro e Z ⟨⟨q,c,rfl,ho⟩,hbZ⟩;exact⟨(q,c),(cvE rfl rfl),OwnS.lower ho hwY.size,zb hbZ f0,(zst hwY hbZ)⟩
 rintro⟨q,c⟩ X ⟨ho,f0,hbX⟩;obtain⟨R,hR⟩:=nm (zdD p);rw [<- hR];refine⟨List UInt8×OA×Nat,fun s=>⟨[(1,i64 16),(2,AtR L),(6,.slice s.2.1 s.1.length s.2.2)],[]⟩,
  fun s Z=>((1<=s.1.length/\jn s.1=s.1)/\∃ n,18<=n+s.1.length/\zik p.threads n s.1=R)/\OwnS zV 5 w.heap.size Z s.2.1 s.2.2 s.1/\Z.heap[L]?=some (.cells pc.toArray 29 (0,0))/\Bw w Z,fun s=>300-s.1.length,(jn p.init,q,c),
  (cvE rfl rfl),⟨⟨⟨ziV hi1,zcY _⟩,18,Qy _ _,hR.symm⟩,ho,f0,hbX⟩,?_⟩
 rintro⟨vals,q,c⟩ X ⟨⟨⟨hv1,hvd⟩,n,hn,hQ⟩,ho,f0,hbX⟩;dsimp only at hv1 hvd hn hQ ho ⊢;have hv256:vals.length<=256:=by rw [<- hvd];exact zdQ _
 refine biE (fun h16=>?_) fun h16=>?_
 ·have h16:(16:Int)<(vals.length:Int):=dT h16;have e:R=none:=by
   rw [<- hQ]
   cases n with
   | zero=>rfl
   | succ n=>exact Gr (by omega)
  exact⟨.inr ⟨e,rfl⟩,hbX⟩
 have h16:¬ (16:Int)<(vals.length:Int):=dF h16;obtain⟨k,rfl⟩:∃ k,n=k+1:=⟨n-1,by omega⟩;have hQ:(if 16<vals.length then none else if (p.threads.any fun l=>decide (4096<(qC l vals).length))=true then none else if (zby p.threads vals).length=vals.length then some vals else zik p.threads k (zby p.threads vals))=R:=hQ;rw [Gq (by omega)] at hQ;have hq0:q=none->c=0:=fun e=>by
  rcases ho.inv with ⟨_,h,_⟩ | ⟨g,_,h,_⟩
  ·exact h
  ·rw [e] at h;cases h
 have hqb:∀ a,q=some a->a.block<X.heap.size:=fun a ha=>(zaJ ho ha).2.1;refine cmo (zlJ ho.row (by omega) hq0) ?_;rintro e Y ⟨⟨q1,k1,rfl,o1⟩,hbY⟩;have hwY:=zst hbX hbY;have f0Y:=zb hbY f0;have hl3:xs.length=p.threads.length:=by rw [<- hxs,QN]
 refine⟨_,zc (za f0Y) (i:=3) (by simpa using h3),?_⟩;obtain⟨g,hg⟩:∃ g:List InsD->List UInt8,g=fun l=>zaF (qC l vals):=⟨_,rfl⟩;have hnx:zby p.threads vals=jn (vals++p.threads.flatMap g):=by unfold zby;rw [hg]
 have hgl:∀ l,(g l).length<=256:=fun l=>by rw [hg];exact zj6 _
 have hth4:=hOP.t4;refine⟨Nat×OA×Nat,fun s=>⟨[(1,i64 16),(2,AtR L),(6,.slice q vals.length c),(7,.slice s.2.1 (vals++(p.threads.take s.1).flatMap g).length s.2.2),(33,.slice p3 p.threads.length c3),(34,i64 p.threads.length),(35,i64 (s.1:Nat))],[]⟩,
  fun s Z=>(s.1<=p.threads.length/\∀ l∈p.threads.take s.1,(qC l vals).length<=4096)/\OwnS zV 5 X.heap.size Z s.2.1 s.2.2 (vals++(p.threads.take s.1).flatMap g)/\Bw X Z,fun s=>p.threads.length-s.1,(0,q1,k1),
  ⟨.cons rfl (.cons rfl (.cons rfl (.cons (by rw [Up,Qp,QK];rfl) (.cons rfl (.cons rfl (.cons rfl .nil)))))),rfl⟩,⟨⟨Gb _,fun l hl=>by cases hl⟩,by show OwnS zV _ _ _ _ _ (vals++(p.threads.take 0).flatMap g);rw [Up,Qp,QK];exact o1,hbY⟩,?_⟩
 rintro⟨m,q1,k1⟩ Y ⟨⟨hm,hsm⟩,o1,hbY⟩;dsimp only at hm hsm o1 ⊢;have hwY:=zst hbX hbY;have f0Y:=zb hbY f0;have hXY:=hbY.size;have lenTake:∀ j,(vals++(p.threads.take j).flatMap g).length<=1280:=fun j=>by
  have h1:=znA hgl (p.threads.take j);rw [Qu] at h1;rw [lap];omega
 refine biE (fun hc=>?_) fun hc=>?_
 ·have hc:(m:Int)<(p.threads.length:Int):=dT hc;have hmt:m<p.threads.length:=by omega
  have hmx:m<xs.length:=by omega
  obtain⟨b3,o3,hp3,hb3,hat3⟩:=zgs (zdZ.below (hwY.mono hB)) hmx;have hB2:b3<Y.heap.size:=nL hb3 (UO hB hwY.size);have e3:some (Value.slice p3 p.threads.length c3)=some (Value.slice (some ⟨b3,o3,none⟩) p.threads.length c3):=by rw [hp3]
  subst hp3;refine⟨m,rfl,hmt,zkg xs[m],by have:=zc (hat3 m hmx) (i:=0) (v:=zkg xs[m]) rfl;exact this,?_⟩;obtain⟨hrm,hrb⟩:=hxr _ (gM hmx);have hxm:xs[m].1=p.threads[m]:=by
   have:=Gl (fun l=>l[m]?) hxs;simp only [KU,gE hmx,gE hmt,Ue,KZ] at this;exact this
  have hmem:=gM hmt;have hxl:xs[m].1.length=p.threads[m].length:=by rw [hxm]
  have hw:=zn6 (w:=Y) (l:=p.threads[m]) (dom:=vals) (q:=xs[m].2.1) (p:=q) (cap:=xs[m].2.2) (cd:=c) (by rw [<- hxm];exact (hrm.below (hwY.mono hB)).slr (UO hB hwY.size)) (ho.row.below hbY) (hOP.th _ hmem) (fun hne a ha=>nL (hrb (by rw [hxm];exact hne) a ha) (UO hB hwY.size)) (fun a ha=>nL (hqb a ha) hXY) (by omega);rw [<- hxl] at hw;have eg:zaF (qC p.threads[m] vals)=g p.threads[m]:=by rw [hg]
  rw [eg] at hw;refine cmo hw ?_;rintro e Z ⟨(⟨q2,k2,hs,rfl,o2⟩ | ⟨hs,rfl⟩),hbZ⟩
  case inr =>
   refine brT ?_;have e:R=none:=by
    rw [<- hQ];exact Gr (Qk.2 ⟨_,hmem,Us hs⟩)
   exact⟨.inr ⟨e,rfl⟩,hbX.trans ((hbY.trans (hbZ.mono hXY)).mono hbX.size)⟩
  refine brF ?_;have tk:(p.threads.take (m+1)).flatMap g=(p.threads.take m).flatMap g++g p.threads[m]:=by
   rw [tsg hmt,Kg,KS,Qp,QK]
  have l1:=lenTake m;have l2:=lenTake (m+1);rw [tk,<- KO,lap] at l2;have hXZ:=hbY.trans (hbZ.mono hXY);have hsZ:=hbZ.size;refine zgG (E:=zV) (T:=5) (B:=X.heap.size) (l:=vals++(p.threads.take m).flatMap g) (news:=g p.threads[m]) (cap:=k1) (m:=(g p.threads[m]).length) Tryz.underlying23 k5 rfl rfl rfl (o1.below hbZ) rfl o2.row (fun e=>by
   rcases o2.inv with ⟨_,h,_⟩ | ⟨g',_,h,_⟩
   ·exact h
   ·rw [e] at h;cases h) (by omega) (by omega) (by show ((vals++(p.threads.take m).flatMap g).length+(g p.threads[m]).length)*1<=_;omega) ?_
  intro q4 k4 U oU gU hbU;rw [KO,<- tk] at oU ⊢;refine nxI (by omega) ⟨(m+1,q4,k4),(cvE rfl rfl),⟨⟨hmt,fun l hl=>?_⟩,oU,hXZ.trans hbU⟩,zdc (by omega)⟩;have hl:l∈p.threads.take (m+1):=hl;rw [tsg hmt] at hl;rcases QS.1 hl with hl | hl
  ·exact hsm l hl
  ·rw [KA.1 hl];exact hs
 ·have hc:¬ (m:Int)<(p.threads.length:Int):=dF hc;obtain rfl:m=p.threads.length:=by omega
  rw [Qw] at o1 hsm ⊢;have l3:=lenTake p.threads.length;rw [Qw] at l3;rw [Gq (fun h=>by
   obtain⟨l,hl,e⟩:=Qk.1 h;have:=hsm l hl;have:=dT e;omega)] at hQ
  refine cmo (zds o1.row (by rw [lap];omega) (by omega)) ?_;rintro e Z ⟨⟨q2,k2,rfl,o2⟩,hbZ⟩;rw [<- hnx] at o2 ⊢;have hXZ:=hbY.trans (hbZ.mono hXY);have hwZ:=zst hbX hXZ;refine biE (fun he=>?_) fun he=>?_
  ·have he:(zby p.threads vals).length=vals.length:=by
    have:=dT he;omega
   rw [Gr he] at hQ;exact⟨.inl ⟨vals,q,c,hQ.symm,rfl,ho.below hXZ⟩,hwZ⟩
  ·have he:¬ (zby p.threads vals).length=vals.length:=fun e=>(dF he) (by rw [e]);rw [Gq he] at hQ;have hge:=ziR p.threads hvd;have hle:(zby p.threads vals).length<=256:=zdQ _;exact⟨(zby p.threads vals,q2,k2),(cvE rfl rfl),⟨⟨⟨by show 1<=(zby p.threads vals).length;omega,zcY _⟩,k,by show 18<=k+(zby p.threads vals).length;omega,hQ⟩,OwnS.lower o2 hwY.size,zb hXZ f0,hwZ⟩,by show 300-(zby p.threads vals).length<300-vals.length;omega⟩
end
abbrev zK (V:List UInt8) (l:List InsD):List PathD:=(qC l V).map zas
abbrev qh (p:Prg) (V:List UInt8):List MixD:=zp3 p.init (p.threads.map (zK V))
def zc8 (p:Prg) (V:List UInt8):Prop :=
 (∀ l∈p.threads,(qC l V).length<=4096)/\(∀ k,k<=p.threads.length->zbw ((p.threads.take k).map fun l=>(zK V l).length)<=4096) /\
  ∀ ds∈qg ((p.threads.map (zK V)).map List.length),(zhr p.init (jm (p.threads.map (zK V)) ds)).isSome=true
section
variable {w:Wd} {bP cv B:Nat} {pc:List Value} {qv:OA} {V:List UInt8} {p:Prg}
theorem zp4 (fP:w.heap[bP]?=some (.cells pc.toArray 29 (0,0))) (hB:B<=w.heap.size) (hP:PrgX B w pc p) (hO:OkG p) (hG:GlobE w) (hV:SlR zV w qv V) (hv1:1<=V.length) (hVd:jn V=V) (hpb:∀ l∈p.threads,∀ P∈zK V l,PathB p.init.length P) :
  Calls PG 30 #[At0 bP,.slice qv V.length cv] w fun e w'=>((zc8 p V/\∃ (ms:List MixX) (q:OA) (c:Nat),e = .returned (.tuple #[.slice q ms.length c,.bool true])/\ms.map (·.m)=qh p V/\OwnS zic 95 w.heap.size w' q c ms/\∀ x∈ms,NInM w.heap.size (fun k=>w.heap.size<=k) w' x)\/(¬ zc8 p V/\e = .returned (.tuple #[.slice none 0 0,.bool false])))/\Bw w w':=by
 have hil:=hO.il;have hi6:=hO.i6;have ht4:=hO.t4;have hv256:V.length<=256:=by rw [<- hVd];exact zdQ V
 refine qj 89 [At0 bP,.slice qv V.length cv] (.c .p (.c .p (.s .p (.s .p (.c .p (.c .p (.s .p .p))))))) Tryz.func30 ?_;obtain⟨L,hL⟩:=nm (w.heap.size);have hbP:=hlt fP;refine⟨Unit,fun _=>⟨[(1,.slice qv V.length cv),(2,At0 L),(4,At0 (L+1)),(5,At0 (L+2))],[]⟩,fun _ X=>X.heap[L]?=some (.cells #[At0 bP] 85 (0,0))/\X.heap[L+1]?=some (.cells #[.slice none 0 0] 90 (0,0))/\X.heap[L+2]?=some (.cells #[.bool false] 4 (0,0))/\X.heap.size=L+3/\Bw w X,?_,?_⟩
 ·have s1:=wz w (.cells #[At0 bP] 85);have h2:=zu (w.alloc (.cells #[At0 bP] 85)) (.cells #[.slice none 0 0] 90);have s2:=wz (w.alloc (.cells #[At0 bP] 85)) (.cells #[.slice none 0 0] 90);have h3:=zu ((w.alloc (.cells #[At0 bP] 85)).alloc (.cells #[.slice none 0 0] 90)) (.cells #[.bool false] 4);have s3:=wz ((w.alloc (.cells #[At0 bP] 85)).alloc (.cells #[.slice none 0 0] 90)) (.cells #[.bool false] 4);rw [s1] at h2 s2;rw [s2] at h3 s3;refine⟨(),⟨.cons rfl (.cons (by rw [hL];rfl) (.cons (by rw [hL,<- s1];rfl) (.cons (by rw [hL,<- s2];rfl) .nil))),rfl⟩,?_,?_,?_,?_,?_⟩
  ·rw [hL];exact qB _ (qB _ (zu w _))
  ·rw [hL];exact qB _ h2
  ·rw [hL];exact h3
  ·rw [hL];exact s3
  ·exact (((zba w _)).alloc (by simp) _).alloc (by simp;omega) _
 rintro _ X ⟨f0,f1,f2,sX,hbX⟩;refine⟨Unit,fun _=>⟨[(1,.slice qv V.length cv),(2,At0 L),(4,At0 (L+1)),(5,At0 (L+2)),(6,At0 (L+3))],[]⟩,fun _ Y=>MxS w.heap.size Y L bP [] none 0 [] none 0/\Bw w Y,?_,?_⟩
 ·refine⟨(),⟨.cons rfl (.cons rfl (.cons rfl (.cons rfl (.cons (by rw [<- sX];rfl) .nil)))),rfl⟩,⟨qB _ f0,qB _ f1,qB _ f2,by rw [<- sX];exact zu X _,OwnS.nil,OwnS.nil,fun z hz=>(by cases hz),fun z hz=>(by cases hz)⟩,hbX.alloc hbX.size _⟩
 clear f0 f1 f2 sX hbX;rintro _ X ⟨hS,hbX⟩;have hP0:=hP;obtain⟨_,⟨p3,c3,h3,xs,hxs,zdZ,hxr⟩,⟨p2,c2,h2,hinit⟩⟩:=hP;have hxl:xs.length=p.threads.length:=by rw [<- hxs,QN]
 refine⟨(List TpR×OA×Nat)×OA×Nat,fun s=>⟨[(2,At0 L),(4,At0 (L+1)),(5,At0 (L+2)),(6,At0 (L+3)),(7,.slice s.2.1 (p.threads.map fun l=>(zK V l).length).length s.2.2)],[]⟩,fun s Z=>((∀ l∈p.threads,(qC l V).length<=4096)/\∀ k,k<=p.threads.length->zbw ((p.threads.take k).map fun l=>(zK V l).length)<=4096)/\MxS w.heap.size Z L bP (p.threads.map fun l=>(zK V l).length) s.2.1 s.2.2 s.1.1 s.1.2.1 s.1.2.2/\s.1.1.map (fun z=>z.1.map (·.1))=p.threads.map (zK V)/\Bw w Z,?_,?_⟩
 ·refine⟨_,zc (za hS.f0) (i:=0) rfl,?_⟩;refine⟨_,zc (za (zb hbX fP)) (i:=3) (by simpa using h3),?_⟩;refine⟨Nat×(List TpR×OA×Nat)×OA×Nat,fun s=>⟨[(1,.slice qv V.length cv),(2,At0 L),(4,At0 (L+1)),(5,At0 (L+2)),(6,At0 (L+3)),(7,.slice s.2.2.1 ((p.threads.take s.1).map fun l=>(zK V l).length).length s.2.2.2),(8,i64 (zbw ((p.threads.take s.1).map fun l=>(zK V l).length):Nat)),(23,.slice p3 p.threads.length c3),(24,i64 p.threads.length),(25,i64 (s.1:Nat))],[]⟩,
   fun s Z=>(s.1<=p.threads.length/\(∀ l∈p.threads.take s.1,(qC l V).length<=4096)/\∀ k,k<=s.1->zbw ((p.threads.take k).map fun l=>(zK V l).length)<=4096)/\MxS w.heap.size Z L bP ((p.threads.take s.1).map fun l=>(zK V l).length) s.2.2.1 s.2.2.2 s.2.1.1 s.2.1.2.1 s.2.1.2.2/\s.2.1.1.map (fun z=>z.1.map (·.1))=(p.threads.take s.1).map (zK V)/\Bw w Z,fun s=>p.threads.length-s.1,(0,([],none,0),none,0),
   (cvE rfl rfl),⟨⟨Gb _,fun l hl=>Gs hl (by simp),fun k hk=>by rw [Nat.le_zero.1 hk];exact (by decide:(1:Nat)<=4096)⟩,hS,rfl,hbX⟩,?_⟩
  clear hS hbX;rintro⟨k,⟨ts,pT,cT⟩,ps,cs⟩ Z ⟨⟨hk,hle,hall⟩,hS,hz,hbZ⟩;dsimp only at hk hle hall hS hz ⊢;have hts:ts.length=k:=by
   have:=Gl List.length hz;rw [QN,QN,Qu] at this;omega
  refine biE (fun hc=>?_) fun hc=>?_
  ·have hc:(k:Int)<(p.threads.length:Int):=dT hc;have hkl:k<p.threads.length:=by omega
   have hkx:k<xs.length:=by omega
   have hZs:=hbZ.size;obtain⟨l,hlk⟩:∃ l,p.threads[k]=l:=⟨_,rfl⟩;have hlm:l∈p.threads:=by rw [<- hlk];exact gM hkl
   have hQ:=hO.th l hlm;obtain⟨b3,o3,hp3,hb3,hat3⟩:=zgs (zdZ.below (hbZ.mono hB)) hkx;have hB2:b3<Z.heap.size:=by omega
   have e3:some (Value.slice p3 p.threads.length c3)=some (Value.slice (some ⟨b3,o3,none⟩) p.threads.length c3):=by rw [hp3]
   subst hp3;refine⟨k,rfl,hkl,?_⟩;refine⟨zkg xs[k],by have:=zc (hat3 k hkx) (i:=0) (v:=zkg xs[k]) rfl;exact this,?_⟩;obtain⟨hrm,hrb⟩:=hxr _ (gM hkx);have hxm:xs[k].1=l:=by
    have:=Gl (fun l=>l[k]?) hxs;simp only [KU,gE hkx,gE hkl,Ue,KZ] at this;rw [this,hlk]
   have hpt:(p.threads.take (k+1))=p.threads.take k++[l]:=by rw [tsg hkl,hlk]
   refine cmo (zq9 (l:=xs[k].1) (vals:=V) ((hrm.below (hbZ.mono hB)).slr (by omega)) (hV.below hbZ) hv1 (by omega) (by rw [hxm];exact hQ) (hG.below hbZ) (fun hne a ha=>by have:=hrb hne a ha;omega)) ?_;rw [hVd,hxm];obtain⟨A,hA⟩:=nm (zbw ((p.threads.take k).map fun l=>(zK V l).length));have hpr0:=hall k (UY _);rintro e Y ⟨(⟨rk,pk,ck,hmle,rfl,hrk,ork,onk⟩ | ⟨hlong,rfl⟩),hbY⟩
   case inr =>
    have hSY:=hS.below hbY;rw [<- hA] at hpr0 ⊢;refine⟨((A*0:Nat):Int),(ze (by omega)).trans (by omega),?_⟩;refine brT ?_;refine brT ?_;refine zn k90 hSY.f1 (o:=0) (v := .slice none 0 0) rfl rfl (by show 0<1;decide) rfl fun Z1 fZ1 gZ1 sZ1=>?_;refine zn k4 ((gZ1.block (L+2) (hlt hSY.f2) (by simp)).trans hSY.f2) (o:=0) (v := .bool false) rfl rfl (by show 0<1;decide) rfl fun Z2 fZ2 gZ2 sZ2=>?_;refine⟨.slice none 0 0,zc (za ((gZ2.block (L+1) (hlt fZ1) (by simp)).trans fZ1)) (i:=0) rfl,.bool false,zc (za fZ2) (i:=0) rfl,.inr ⟨fun h=>?_,rfl⟩,?_⟩
    ·have:=h.1 l hlm;omega
    ·have hwY:=hbZ.trans (hbY.mono hZs);exact (hwY.trans (zk gZ1 hwY.size (by omega))).trans (zk gZ2 (by rw [sZ1];exact hwY.size) (by omega))
   have hrk:rk.map (·.1)=zK V l:=hrk;have hrkl:rk.length=(zK V l).length:=by rw [<- hrk,QN]
   have hpl:(zK V l).length<=4096:=by rw [QN];exact hmle
   have hSY:=hS.below hbY;have hA2:zbw ((p.threads.take (k+1)).map fun l=>(zK V l).length)=A*rk.length:=by
    rw [hpt,QR];show zbw ((p.threads.take k).map (fun l=>(zK V l).length)++[(zK V l).length])=_;rw [zmd,<- hrkl,hA]
   rw [<- hA] at hpr0 ⊢;obtain⟨nz,hnz⟩:∃ nz:TpR,nz=(rk,pk,ck):=⟨_,rfl⟩;have hen:[Value.slice pk rk.length ck]=tpE.enc nz:=by rw [hnz];rfl
   have hAr:A*rk.length<=4096*4096:=Uq hpr0 (by omega);refine⟨((A*rk.length:Nat):Int),by rw [<- QI];exact ze (by omega),?_⟩;refine brF ?_;refine biE (fun hbig=>?_) fun hbig=>?_
   ·have hbig:(4096:Int)<((A*rk.length:Nat):Int):=dT hbig;refine zn k90 hSY.f1 (o:=0) (v := .slice none 0 0) rfl rfl (by show 0<1;decide) rfl fun Z1 fZ1 gZ1 sZ1=>?_;refine zn k4 ((gZ1.block (L+2) (hlt hSY.f2) (by simp)).trans hSY.f2) (o:=0) (v := .bool false) rfl rfl (by show 0<1;decide) rfl fun Z2 fZ2 gZ2 sZ2=>?_;refine⟨.slice none 0 0,zc (za ((gZ2.block (L+1) (hlt fZ1) (by simp)).trans fZ1)) (i:=0) rfl,.bool false,zc (za fZ2) (i:=0) rfl,.inr ⟨fun h=>?_,rfl⟩,?_⟩
    ·have:=h.2.1 (k+1) hkl;rw [hA2] at this;omega
    ·have hwY:=hbZ.trans (hbY.mono hZs);exact (hwY.trans (zk gZ1 hwY.size (by omega))).trans (zk gZ2 (by rw [sZ1];exact hwY.size) (by omega))
   have hbig:¬ (4096:Int)<((A*rk.length:Nat):Int):=dF hbig;have hpr:A*rk.length<=4096:=by omega
   refine⟨_,zc (za hSY.f3) (i:=0) rfl,?_⟩;refine⟨⟨by decide,by decide,rfl⟩,tpE.enc nz,by rw [<- hen];rfl,?_⟩;have hb1:Bw Y (Y.alloc (.cells (tpE.enc nz).toArray 130)):=zba _ _;have hS1:=hSY.below hb1;have ork1:=ork.below hb1;have onk1:=fun x hx=>(onk x hx).same (Z:=Y.alloc (.cells (tpE.enc nz).toArray 130)) fun {α E T c q l} _ ho=>ho.below hb1;unfold zdY zax;show SatR _ _;refine zvr hS1.rk (qS tpE nz) (by have:=hb1.size;have:=hbY.size;omega) (by omega) fun p' c' U oU gU hat1=>?_;have f0U:=qo hS1.f0 hS1.rk (by decide) gU;have f1U:=qo hS1.f1 hS1.rk (by decide) gU;have f2U:=qo hS1.f2 hS1.rk (by decide) gU;have f3U:=qo hS1.f3 hS1.rk (by decide) gU;refine zn zvn f3U (o:=0) (v := .slice p' (ts++[nz]).length c') rfl rfl (by show 0<1;decide) rfl fun S fS gS sS=>?_;have hbZY:=hbZ.trans (hbY.mono hZs);have sY:=hbY.size;have sb1:=hb1.size;have hbU:Bw w U:=(hbZY.trans (hb1.mono (by omega))).trans (jd hS1.rk (by omega) (UY _) gU);have hbS:Bw w S:=hbU.trans (zk gS hbU.size (by omega));have hSS:MxS w.heap.size S L bP ((p.threads.take k).map fun l=>(zK V l).length) ps cs (ts++[nz]) p' c':=by
    have kU:∀ {α:Type} {E:Enc α} {T cc:Nat} {r:OA} {ll:List α},T≠130->T≠129->OwnS E T w.heap.size (Y.alloc (.cells (tpE.enc nz).toArray 130)) r cc ll->OwnS E T w.heap.size S r cc ll:=fun {α E T cc r ll} h1 h2 h=>qq (zam h hS1.rk h1 gU) f3U h2 gS;have kB:∀ {b:Nat} {o:Obj},b≠L+3->U.heap[b]?=some o->S.heap[b]?=some o:=fun {b o} hb h=>(gS.block b (hlt h) (by simpa using hb)).trans h;have kP:∀ x:zdz,PthO w.heap.size (Y.alloc (.cells (tpE.enc nz).toArray 130)) x->PthO w.heap.size S x:=fun x hx=>hx.same fun {α E T c q l} ht ho=>kU (by rcases ht with rfl | rfl <;> decide) (by rcases ht with rfl | rfl <;> decide) ho;refine⟨kB (by omega) f0U,kB (by omega) f1U,kB (by omega) f2U,fS,kU (by decide) (by decide) hS1.own,qq oU f3U (by decide) gS,fun z hz=>?_,fun z hz=>?_⟩
    ·rcases QS.1 hz with hz | hz
     ·exact kU (by decide) (by decide) (hS1.n1 z hz)
     ·rw [KA.1 hz,hnz];exact kU (by decide) (by decide) (ork1.lower hZs)
    ·rcases QS.1 hz with hz | hz
     ·exact fun x hx=>kP x (hS1.n2 z hz x hx)
     ·rw [KA.1 hz,hnz];exact fun x hx=>kP x ((onk1 x hx).mono hZs)
   clear hS1 ork1 onk1 hSY hS oU gU hat1 f0U f1U f2U f3U fS gS;refine⟨⟨by decide,by decide,rfl⟩,zB.enc rk.length,rfl,?_⟩;have hb2:Bw S (S.alloc (.cells (zB.enc rk.length).toArray 3)):=zba _ _;have hS2:=hSS.below hb2;have sbS:=hbS.size;have sb2:=hb2.size;unfold zdY zax;show SatR _ _;refine zo7 hS2.own (qS zB rk.length) (by omega) (by rw [QN,Qu];omega) fun p2' c2' V' oV gV hat2=>?_;rw [zaH] at gV;have hSV:=hS2.size oV gV;have hzz:((p.threads.take k).map fun l=>(zK V l).length)++[rk.length]=(p.threads.take (k+1)).map fun l=>(zK V l).length:=by
    rw [hpt,QR,hrkl];rfl
   rw [hzz] at hSV ⊢;refine nxI (by omega) ?_;refine⟨(k+1,(ts++[nz],p',c'),p2',c2'),⟨.cons rfl (.cons rfl (.cons rfl (.cons rfl (.cons rfl (.cons rfl (.cons (by show _=some (i64 (zbw ((p.threads.take (k+1)).map fun l=>(zK V l).length):Nat));rw [hA2];rfl) (.cons rfl (.cons rfl (.cons rfl .nil))))))))),rfl⟩,⟨⟨hkl,fun l' hl'=>?_,fun k' hk'=>?_⟩,hSV,?_,hbS.trans ((hb2.mono sbS).trans (jd hS2.own (by omega) (UY _) gV))⟩,zdc (by omega)⟩
   ·have hl':l'∈p.threads.take (k+1):=hl';rw [hpt] at hl';rcases QS.1 hl' with h | h
    ·exact hle l' h
    ·rw [KA.1 h];exact hmle
   ·have hk':k'<=k+1:=hk';by_cases e:k'=k+1
    ·rw [e,hA2];exact hpr
    ·exact hall k' (by omega)
   rw [hpt,QR,QR,hz,hnz];show _++[rk.map (·.1)]=_++[zK V l];rw [hrk]
  ·have hc:¬ (k:Int)<(p.threads.length:Int):=dF hc;obtain rfl:k=p.threads.length:=by omega
   rw [Qw] at hz hS hle ⊢;exact⟨((ts,pT,cT),ps,cs),(cvE rfl rfl),⟨hle,hall⟩,hS,hz,hbZ⟩
 rintro⟨⟨ts,pT,cT⟩,ps,cs⟩ X ⟨⟨hle,hall⟩,hS,hz,hbX⟩;dsimp only at hS hz ⊢;obtain⟨Q,hQ⟩:=nm (X.heap.size);refine⟨Unit,fun _=>⟨[(2,At0 L),(4,At0 (L+1)),(5,At0 (L+2)),(6,At0 (L+3)),(7,.slice ps (p.threads.map fun l=>(zK V l).length).length cs),(13,At0 Q)],[]⟩,fun _ Z=>MxS w.heap.size Z L bP (p.threads.map fun l=>(zK V l).length) ps cs ts pT cT/\Z.heap[Q]?=some (.cells #[.slice none 0 0] 90 (0,0))/\Z.heap.size=Q+1/\Bw w Z,?_,?_⟩
 ·refine⟨(),⟨.cons rfl (.cons rfl (.cons rfl (.cons rfl (.cons rfl (.cons (by rw [hQ];rfl) .nil))))),rfl⟩,hS.below ((zba X _)),by rw [hQ];exact zu X _,by rw [hQ];exact wz _ _,hbX.alloc hbX.size _⟩
 have hQw:w.heap.size+4<=Q:=by have:=hlt hS.f3;omega
 clear hS hbX hQ;clear X;rintro _ X ⟨hS,fQ,sX,hbX⟩;obtain⟨Ts,hTs⟩:=nm (p.threads.map (zK V));have hTl:Ts.length=p.threads.length:=by rw [hTs,QN]
 have htl:ts.length=p.threads.length:=by have:=Gl List.length hz;simpa using this
 have hsz:(p.threads.map fun l=>(zK V l).length)=Ts.map List.length:=by rw [hTs,UI];rfl
 rw [hsz] at hS ⊢;rw [<- hTs] at hz;have hsl1:(Ts.map List.length).length<=1000:=by rw [QN];omega
 have hsl2:∀ n∈Ts.map List.length,n<=1000000:=fun n hn=>by
  rw [hTs,UI] at hn;obtain⟨l,hl,rfl⟩:=UL.1 hn;have:=hle l hl;show ((qC l V).map zas).length<=_;rw [QN];omega
 have hmemT:∀ z∈ts,∀ x∈z.1,PathB p.init.length x.1:=fun z hz' x hx=>by
  have h1:z.1.map (·.1)∈Ts:=by rw [<- hz];exact UL.2 ⟨z,hz',rfl⟩
  rw [hTs] at h1;obtain⟨l,hl,he⟩:=UL.1 h1;exact hpb l hl x.1 (by rw [he];exact UL.2 ⟨x,hx,rfl⟩)
 refine cmo zpX ?_;rintro e V1 ⟨rfl,fo,sV1,hbV1⟩;have hI:=zsZ fo (hS.own.row.below hbV1) (fun a ha=>by have:=(zy hS.own ha).2.1;omega) hsl1 hsl2;have hS1:=hS.below hbV1;have hb1:Bw w V1:=zst hbX hbV1;have hG0:Gath zic 95 90 Q V1.heap.size Q V1 (NInM w.heap.size) [] (fun k=>k=Q\/k=L+1\/k=L+2) V1 :=
  ⟨UY _,.inl rfl,fun k hk=>by have:=hlt hS1.f3;omega,⟨none,0,zb hbV1 fQ,OwnS.nil,fun a h=>by cases h⟩,fun x hx=>(by cases hx),Gd _ _⟩
 obtain⟨f,hf⟩:∃ f:List Nat->Option MixD,f=fun ds=>zhr p.init (jm Ts ds):=⟨_,rfl⟩;have hmix:qh p V=(qg (Ts.map List.length)).filterMap f:=by rw [hf,hTs];rfl
 have hIter:=Gath.iter (σ:=List (List Nat)) (E:=zic) (T:=95) (TS:=90) (B:=Q) (n0:=V1.heap.size) (L:=Q) (W:=V1) (NIn:=NInM w.heap.size) (f:=fun pre (ms:List MixX)=>ms.map (·.m)=pre.filterMap f/\ms.length<=pre.length/\∀ ds∈pre,(f ds).isSome=true) (ziG _) (by omega);have hOkI:∀ h:(∀ ds∈qg (Ts.map List.length),(f ds).isSome=true),zc8 p V:=fun h=>⟨hle,hall,by rw [hf,hTs] at h;exact h⟩;have hOkE:zc8 p V->∀ ds∈qg (Ts.map List.length),(f ds).isSome=true:=fun h=>by rw [hf,hTs];exact h.2.2
 have hQL:L+2<Q:=by omega
 have h1Q:=hS1.f1;have h2Q:=hS1.f2;refine zdg (zbB _) rfl (lb := #[At0 X.heap.size]) rfl rfl hI (UY _) (fun k hk=>⟨?_,rfl⟩) (fun pre vs W ⟨l,q,_,h,_⟩=>by rw [h];rfl) (by decide)
  (fun k=>k=Q\/k=L+1\/k=L+2) (fun pre F Y=>(F (L+1)/\F (L+2))/\∃ ms,(ms.map (·.m)=pre.filterMap f/\ms.length<=pre.length/\∀ ds∈pre,(f ds).isSome=true)/\Gath zic 95 90 Q V1.heap.size Q V1 (NInM w.heap.size) ms F Y)
  (fun ex pre F Y=>(∀ k,F k->k<Y.heap.size)/\V1.heap.size<=Y.heap.size/\ex = .ret/\¬ zc8 p V/\Y.heap[L+1]?=some (.cells #[.slice none 0 0] 90 (0,0))/\Y.heap[L+2]?=some (.cells #[.bool false] 4 (0,0))/\Bw w Y) (fun k hk=>?_) ⟨fun s F A C ⟨h1,h2⟩ hs=>⟨h1,hIter.step s F A C h2 hs⟩,fun s F A k ⟨_,h2⟩ hk=>hIter.lt s F A k h2 hk⟩
  (fun ex=>⟨fun pre F A C ⟨g1,g2,g3,g4,g5,g6,g7⟩ hs=>⟨fun k hk=>nL (g1 k hk) hs.size,UO g2 hs.size,g3,g4,(hs.same _ (hlt g5) (.inl ⟨by omega,fun h=>h⟩)).trans g5,(hs.same _ (hlt g6) (.inl ⟨by omega,fun h=>h⟩)).trans g6,g7.trans ⟨hs.os,hs.tape,hs.output,hs.size,fun k hk=>hs.same k (by have:=g7.size;omega) (.inl ⟨by have:=hb1.size;omega,fun h=>h⟩)⟩⟩,fun pre F A k ⟨g1,_⟩ hk=>⟨g1 k hk,fun h=>h⟩⟩) ⟨⟨.inr (.inl rfl),.inr (.inr rfl)⟩,[],⟨rfl,Gb _,fun ds h=>by cases h⟩,hG0⟩ ?_ ?_ ?_
 ·rcases hk with (rfl | ⟨a,ha,rfl⟩) | h
  ·omega
  ·have:=(zy hS.own ha).2.1;omega
  ·exact h.elim
 ·rcases hk with rfl | ⟨a,ha,rfl⟩
  ·omega
  ·obtain⟨_,_,cur,hc⟩:=zy hS.own ha;rintro (e | e | e)
   ·rw [e,fQ] at hc;simp at hc
   ·rw [e,hS.f1] at hc;simp at hc
   ·rw [e,hS.f2] at hc;simp at hc
 ·rintro yl pre ds vs F Y hyl hpre hJ0 ⟨l,qd,hlast,rfl,hsl,hcel⟩ hfy ⟨lo,hlo⟩;have hdx:ds=l:=by simpa using hlast
  subst hdx;refine⟨rfl,F,KeepsG.refl _ _,hJ0,?_⟩;rintro O Y2 hY2 ⟨hFL,ms,⟨hms,hml,hsm⟩,hG2⟩;have hslY:SlR zB Y2 qd ds:=by
   rw [hY2];refine jf hsl fun a ha=>zj fun e=>?_;obtain⟨cur,hcur⟩:=hcel a ha;rw [e,hlo] at hcur
   cases hcur
  obtain⟨hdl,hdlt⟩:=za1 (hpre.subset (JO _ (KA.2 rfl)));have hdm:ds∈qg (Ts.map List.length):=hpre.subset (JO _ (KA.2 rfl));rw [QN] at hdl;have hY2s:=hG2.size;have old:∀ {k:Nat} {ob:Obj},k<Q->V1.heap[k]?=some ob->Y2.heap[k]?=some ob:=fun {k ob} hk h=>(hG2.old.block k hk).trans h;have g0:=old (by omega) hS1.f0;have g3:=old (by omega) hS1.f3;have kR:∀ {α:Type} {E:Enc α} {T cc:Nat} {r:OA} {ll:List α},T≠90->OwnS E T w.heap.size X r cc ll->OwnS E T w.heap.size Y2 r cc ll:=fun {α E T cc r ll} hT h=>h.same fun a ha=>by
   have hq:a.block≠Q:=fun e=>by
    obtain⟨_,_,cur,hc⟩:=zy h ha;rw [e,fQ] at hc;simp at hc;exact hT hc.2.symm
   have:=(zy h ha).2.1;exact (hG2.old.block _ (by omega)).trans (hbV1.block _ this)
  have rkY:=kR (by decide) hS.rk;have n1Y:=fun z hz=>kR (by decide) (hS.n1 z hz);have n2Y:∀ z∈ts,∀ x∈z.1,PthO w.heap.size Y2 x:=fun z hz x hx=>(hS.n2 z hz x hx).same fun {α E T c q l} ht ho=>kR (by rcases ht with rfl | rfl <;> decide) ho;have fPY:Y2.heap[bP]?=some (.cells pc.toArray 29 (0,0)):=old (by omega) ((hb1.block bP hbP).trans fP);have hbwY:Bw w Y2:=hb1.trans (hG2.old.mono (by omega));refine⟨Nat×List zdz×OA×Nat,fun s=>⟨[(2,At0 L),(4,At0 (L+1)),(5,At0 (L+2)),(6,At0 (L+3)),(13,At0 Q),(15,.slice s.2.2.1 s.2.1.length s.2.2.2),(58,.slice qd ds.length ds.length),(59,i64 ds.length),(60,i64 (s.1:Nat))],[]⟩,
   fun s Z=>s.1<=ds.length/\OwnS jX 138 Y2.heap.size Z s.2.2.1 s.2.2.2 s.2.1/\s.2.1.map (·.1)=jm (Ts.take s.1) (ds.take s.1)/\s.2.1.length=s.1/\(∀ x∈s.2.1,∃ z∈ts,x∈z.1)/\Bw Y2 Z,fun s=>ds.length-s.1,(0,[],none,0),
   (cvE rfl rfl),⟨Gb _,OwnS.nil,by simp [jm],rfl,fun x hx=>(by cases hx),Gd _ _⟩,?_⟩
  rintro⟨k,Cs,pC,cC⟩ Z ⟨hk,oC,hCs,hCl,hCm,hbZ⟩;dsimp only at hk oC hCs hCl hCm ⊢;have hZs:=hbZ.size;refine biE (fun hc=>?_) fun hc=>?_
  ·have hc:(k:Int)<(ds.length:Int):=dT hc;have hkl:k<ds.length:=by omega
   have hkt:k<ts.length:=by omega
   obtain⟨z,hzk⟩:∃ z,ts[k]=z:=⟨_,rfl⟩;have hzm:z∈ts:=by rw [<- hzk];exact gM hkt
   have hkT:k<Ts.length:=by omega
   have hzT:Ts[k]=z.1.map (·.1):=by
    have h1:Ts[k]?=some (z.1.map (·.1)):=(by rw [<- hz,KU,gE hkt,hzk];rfl);rw [gE hkT] at h1;exact Uf h1
   obtain⟨d,hd⟩:∃ d,ds[k]=d:=⟨_,rfl⟩;have hdz:d<z.1.length:=by
    have:=hdlt k (Ts[k].length) d (by rw [KU,gE hkT];rfl) (by rw [gE hkl,hd]);rw [hzT,QN] at this;exact this
   obtain⟨x,hx⟩:∃ x,z.1[d]=x:=⟨_,rfl⟩;have hxm:x∈z.1:=by rw [<- hx];exact gM hdz
   have hpick:jm (Ts.take (k+1)) (ds.take (k+1))=jm (Ts.take k) (ds.take k)++[x.1]:=by
    rw [tsg hkT,tsg hkl,hd,hzT,zg9 _ _ _ _ (by rw [Qu,Qu];omega),KU,gE hdz,hx];rfl
   obtain⟨bD,oD,hpD,hlD,hatD⟩:=(hslY.below hbZ).at hkl;obtain⟨bT,oT,hpT,hlT,hatT⟩:=(rkY.below hbZ).row.at hkt;obtain⟨bz,oz,hpz,hlz,hatz⟩:=((n1Y z hzm).below hbZ).row.at hdz;subst hpD;subst hpT;refine⟨k,rfl,hkl,?_⟩;refine⟨i64 d,by have:=zc (hatD k hkl) (i:=0) (v:=i64 d) (by rw [hd];rfl);exact this,?_⟩;refine⟨_,zc (za (zb hbZ g3)) (i:=0) rfl,?_⟩;refine⟨k,rfl,hkt,?_⟩;refine⟨.slice z.2.1 z.1.length z.2.2,by have:=zc (hatT k hkt) (i:=0) (v := .slice z.2.1 z.1.length z.2.2) (by rw [hzk];rfl);exact this,?_⟩;rw [hpz];refine⟨d,rfl,hdz,?_⟩;refine⟨jX.enc x,jX.len x,by rw [<- hx];exact hatz d hdz,hlz,?_⟩;refine⟨⟨by decide,by decide,rfl⟩,jX.enc x,zaZ (jX.len x) rfl,?_⟩;have hb2:Bw Z (Z.alloc (.cells (jX.enc x).toArray 138)):=zba _ _;have sb2:=hb2.size;unfold zdY zax;show SatR _ _;refine zvt (oC.below hb2) (qS jX x) (by omega) (by omega) fun p' c' U oU gU hat1=>?_;refine nxI (by omega) ?_;refine⟨(k+1,Cs++[x],p',c'),(cvE rfl rfl),⟨hkl,oU,by rw [QR,hCs,hpick];rfl,by rw [lap,hCl];rfl,fun y hy=>?_,hbZ.trans ((hb2.mono hZs).trans (jd (oC.below hb2) (by omega) (UY _) gU))⟩,zdc (by omega)⟩;rcases QS.1 hy with hy | hy
   ·exact hCm y hy
   ·rw [KA.1 hy];exact⟨z,hzm,hxm⟩
  have hc:¬ (k:Int)<(ds.length:Int):=dF hc;obtain rfl:k=ds.length:=by omega
  rw [Qw,JH (by omega)] at hCs;obtain⟨q1,y1,q2,y2,q3,y3,q4,y4,hvs,_⟩:=hP0.v.h;have hpc1:pc[1]?=some (.slice q1 p.init.length y1):=by rw [hvs,<- hil];rfl
  have hZw:w.heap.size<=Z.heap.size:=by have:=hbwY.size;omega
  refine⟨_,zc (za (zb hbZ g0)) (i:=0) rfl,?_⟩;refine cmo (zmN (zb hbZ fPY) hpc1 h2 ((hinit.below (((zst hbwY hbZ)).mono hB)).slr (by omega)) hi6 oC.row (fun x hx=>?_) (fun x hx=>?_) (by omega)) ?_
  ·obtain⟨z,hz1,hx1⟩:=hCm x hx;obtain⟨o1,o2,o3,o4⟩:=n2Y z hz1 x hx1;refine⟨fun a ha=>?_,(o1.below hbZ).row,(o2.below hbZ).row,(o3.below hbZ).row,(o4.below hbZ).row⟩;rcases ha with ha | ha | ha
   ·exact (zy (o2.below hbZ) ha).2.1
   ·exact (zy (o3.below hbZ) ha).2.1
   ·exact (zy (o4.below hbZ) ha).2.1
  ·obtain⟨z,hz1,hx1⟩:=hCm x hx;exact hmemT z hz1 x hx1
  rintro e U ⟨⟨vs,hres⟩,hbU⟩;have hfd0:f ds=zhr p.init (Cs.map (·.1)):=by rw [hf,hCs]
  cases hmx:zhr p.init (Cs.map (·.1)) with
  | none =>
   rw [hmx] at hres hfd0;obtain⟨rfl,hvz⟩:=hres;have hvl:vs.length=336:=by rw [hvz];exact jK
   have hv1:vs.all Value.oneCell'=true:=by rw [hvz];kernel_rfl
   have hUs:=hbU.size;refine zo (X:=U) (v := .agg vs.toArray) k95 hvl jK hv1 fun V' hbV fV sV=>?_;refine brT ?_;have hbY2V:Bw Y2 V':=(hbZ.trans (hbU.mono hZs)).trans (hbV.mono (by omega));have hV2:=hbY2V.size;have g1:V'.heap[L+1]?=_:=zb hbY2V (old (by omega) hS1.f1);have g2:V'.heap[L+2]?=_:=zb hbY2V (old (by omega) hS1.f2);refine zn k90 g1 (o:=0) (v := .slice none 0 0) rfl rfl (by show 0<1;decide) rfl fun Z1 fZ1 gZ1 sZ1=>?_;refine zn k4 ((gZ1.block (L+2) (hlt g2) (by simp)).trans g2) (o:=0) (v := .bool false) rfl rfl (by show 0<1;decide) rfl fun Z2 fZ2 gZ2 sZ2=>?_;have hFlt:=hG2.lt;have b2:Bw w Z2:=(((zst hbwY hbY2V)).trans (zk gZ1 (by have:=hbwY.size;omega) (by omega))).trans (zk gZ2 (by have:=hbwY.size;omega) (by omega));refine⟨F,⟨fun k hk=>by have:=hFlt k hk;omega,by omega,rfl,fun h=>?_,(gZ2.block (L+1) (hlt fZ1) (by simp)).trans fZ1,fZ2,b2⟩,(((KeepsG.below hbY2V fun k h => .inl h):KeepsG F F Y2 V').trans (KeepsG.grown (F:=F) gZ1 hFL.1)).trans (KeepsG.grown (F:=F) gZ2 hFL.2)⟩;have:=hOkE h ds hdm;rw [hfd0] at this
   cases this
  | some mx =>
  rw [hmx] at hres;have hfd:f ds=some mx:=by rw [hfd0,hmx]
  obtain⟨rfl,x1,x2,x3,x4,y1,y2,y3,y4,xs',ys',hvs',m1,m2,m3,m4,m5,m6,m7,m8⟩:=hres;obtain⟨nx,hnx⟩:∃ nx:MixX,nx=⟨mx,x1,y1,x2,y2,x3,y3,x4,y4,xs',ys'⟩:=⟨_,rfl⟩;have hen:vs=zic.enc nx:=by rw [hvs',hnx];rfl
  have hvl:vs.length=336:=by rw [hen];exact zic.len nx
  have hv1:vs.all Value.oneCell'=true:=by rw [hen];exact zk0 nx
  have hUs:=hbU.size;refine zo (X:=U) (v := .agg vs.toArray) k95 hvl jK hv1 fun V' hbV fV sV=>?_;have fV:V'.heap[U.heap.size]?=some (.cells vs.toArray 95 (0,0)):=fV;refine brF ?_;have hbY2V:Bw Y2 V':=(hbZ.trans (hbU.mono hZs)).trans (hbV.mono (by omega));obtain⟨pr,cr,h4,h5,h6⟩:=hG2.row;refine⟨_,zc (za (zb hbY2V h4)) (i:=0) rfl,?_⟩;refine⟨vs,hvl,za fV,hlt fV,?_⟩;refine⟨⟨by decide,by decide,jK⟩,zic.enc nx,by rw [<- hen];exact zaZ hvl jK,?_⟩;have hpl:pre.length<1000000000:=by
   obtain⟨t,ht⟩:=hpre;have h7:(pre++[ds]++t).length=z6 (Ts.map List.length).reverse:=by
    rw [ht];unfold qg;rw [QN,KV]
   have h8:z6 (Ts.map List.length).reverse<=4096:=by
    have h9:=hall p.threads.length (UY _);rw [Qw,hsz] at h9;rw [zfw];exact h9
   simp only [lap,Qs] at h7;omega
  have hnw:∀ (G:Nat->Prop) (S:Wd),(∀ k,Y2.heap.size<=k->k<V'.heap.size->S.heap[k]?=V'.heap[k]?)->(∀ k,Y2.heap.size<=k->k<V'.heap.size->G k)->NInM w.heap.size G S nx:=by
   intro G S hs hg;have kp:∀ {α:Type} {E:Enc α} {T cc:Nat} {r:OA} {ll:List α},OwnS E T Z.heap.size U r cc ll->RowIn E T w.heap.size G S r cc ll:=fun {α E T cc r ll} h=>by
    have ol:∀ a,r=some a->Y2.heap.size<=a.block/\a.block<V'.heap.size:=fun a ha=>⟨by have:=(zy h ha).1;omega,by have:=(zy h ha).2.1;omega⟩;exact⟨OwnS.lower ((h.below hbV).same fun a ha=>hs _ (ol a ha).1 (ol a ha).2) hZw,fun a ha=>hg _ (ol a ha).1 (ol a ha).2⟩
   rw [hnx];exact⟨m3,m6,kp m1,kp m2,kp m4,fun y hy=>kp (m5 y hy),kp m7,fun y hy=>kp (m8 y hy)⟩
  obtain⟨v,Y5,hrun,S,hrun2,F',hG',hK',hFF'⟩:=hG2.step (P:=PG) (ty:=90) (cap1:=1) (ziG _) (by decide) Tryz.underlying90 k95 rfl rfl (by show _=336;exact jK) k90 rfl (by omega) (UY _) hbY2V nx (by omega) (by show (ms.length+1)*2488<=_;omega) hnw pr cr h4;unfold zdY zax;refine SatR.mk hrun ?_;refine SatR.mk hrun2 ?_;refine⟨F',⟨⟨hFF' _ hFL.1,hFF' _ hFL.2⟩,_,⟨?_,by rw [lap,lap];show ms.length+1<=pre.length+1;omega,fun d hd=>?_⟩,hG'⟩,hK'⟩
  case refine_2 =>
   rcases QS.1 hd with h | h
   ·exact hsm d h
   ·rw [KA.1 h,hfd];rfl
  rw [QR,List.filterMap_append,hms];show _++[nx.m]=_++List.filterMap f [ds];rw [show List.filterMap f [ds]=[mx] by rw [List.filterMap_cons,hfd];rfl,hnx]
 ·rintro D F Y hD hfD ⟨hFL,ms,⟨hms,hml,hsm⟩,hG⟩ hdef;obtain⟨pr,cr,h4,h5,h6⟩:=hG.row;have hYs:=hG.size;have old:∀ {k:Nat} {ob:Obj},k<Q->V1.heap[k]?=some ob->Y.heap[k]?=some ob:=fun {k ob} hk h=>(hG.old.block k hk).trans h;have g1:=old (by omega) hS1.f1;have g2:=old (by omega) hS1.f2;refine⟨_,zc (za h4) (i:=0) rfl,?_⟩;refine zn k90 g1 (o:=0) (v := .slice pr ms.length cr) rfl rfl (by show 0<1;decide) rfl fun Z1 fZ1 gZ1 sZ1=>?_;refine zn k4 ((gZ1.block (L+2) (hlt g2) (by simp)).trans g2) (o:=0) (v := .bool true) rfl rfl (by show 0<1;decide) rfl fun Z2 fZ2 gZ2 sZ2=>?_;have k2:∀ k,k<Y.heap.size->k≠L+1->k≠L+2->Z2.heap[k]?=Y.heap[k]?:=fun k hk n1 n2=>(gZ2.block k (by rw [sZ1];exact hk) (by simpa using n2)).trans (gZ1.block k hk (by simpa using n1));refine⟨_,rfl,(k2 D (hlt hdef) (by omega) (by omega)).trans hdef,?_⟩;have f2':=(gZ2.block (L+1) (hlt fZ1) (by simp)).trans fZ1;have kp:∀ a:Addr,a.block≠L+1->a.block≠L+2->F a.block->a.block<Y.heap.size->(Z2.putObj D (.deferred none)).heap[a.block]?=Y.heap[a.block]?:=fun a n1 n2 h2 h3=>(zj fun e=>by rw [<- e] at hfD;exact hfD h2).trans (k2 _ h3 n1 n2);have hwY:=hb1.trans (hG.old.mono (by omega));have b2:=(hwY.trans (zk gZ1 hwY.size (by omega))).trans (zk gZ2 (by have:=hwY.size;omega) (by omega));have ne:∀ {α:Type} {E:Enc α} {T B' cc:Nat} {r:OA} {ll:List α},T≠90->T≠4->OwnS E T B' Y r cc ll->∀ a,r=some a->a.block≠L+1/\a.block≠L+2:=fun {α E T B' cc r ll} t1 t2 h a ha=>by
   obtain⟨_,_,cur,hc⟩:=zy h ha;refine⟨fun e=>?_,fun e=>?_⟩
   ·rw [e,g1] at hc;simp at hc;exact t1 hc.2.symm
   ·rw [e,g2] at hc;simp at hc;exact t2 hc.2.symm
  refine⟨.slice pr ms.length cr,zc (za ((zj (by omega)).trans f2')) (i:=0) rfl,.bool true,zc (za ((zj (by omega)).trans fZ2)) (i:=0) rfl,.inl ⟨hOkI hsm,ms,pr,cr,rfl,by rw [hms,hmix],?_,fun x hx=>?_⟩,qP b2 (by omega) _⟩
  ·exact OwnS.lower (h5.same fun a ha=>kp a (ne (by decide) (by decide) h5 a ha).1 (ne (by decide) (by decide) h5 a ha).2 (h6 a ha) (zy h5 ha).2.1) (by omega)
  ·exact (hG.nest x hx).same fun {α E T c q l} t1 t2 t3 hr=>⟨hr.own.same fun a ha=>kp a (ne t2 t3 hr.own a ha).1 (ne t2 t3 hr.own a ha).2 (hr.inF a ha) (zy hr.own ha).2.1,fun a ha=>(zy hr.own ha).1⟩
 ·rintro D ex pre F Y hD hfD hpre ⟨g1,g2,rfl,g4,g5,g6,g7⟩ hdef;refine⟨_,rfl,hdef,?_⟩;refine⟨.slice none 0 0,zc (za ((zj (by have:=hlt hS1.f3;omega)).trans g5)) (i:=0) rfl,.bool false,zc (za ((zj (by have:=hlt hS1.f3;omega)).trans g6)) (i:=0) rfl,.inr ⟨g4,rfl⟩,qP g7 (by have:=hb1.size;omega) _⟩
end
def qV (m:MixD):List ExD:=if jw m 1=0 then [] else zdv m
abbrev je (p:Prg) (V:List UInt8):List ExD:=(qh p V).flatMap qV
def zc3 (p:Prg) (V:List UInt8) (most:Nat):Prop:=zdD p=some V/\zc8 p V/\((qh p V).map fun m=>jw m 20001).sum<=most
structure MixC (m:MixD):Prop where
 rl:m.rs.length<=48
 wl:m.wr.length<=6
 rs:∀ r∈m.rs,r.1<48/\r.2.length<=1000/\∀ s∈r.2,s<48
 wr:∀ w∈m.wr,w.length<=48
structure CandB (p:Prg) (V:List UInt8):Prop where
 pb:∀ l∈p.threads,∀ P∈zK V l,PathB p.init.length P
 ml:zc8 p V->(qh p V).length<=5000
 mc:zc8 p V->∀ m∈qh p V,MixC m
 mb:zc8 p V->((qh p V).map fun m=>jw m 20001).sum<=20000->∀ m∈qh p V,jw m 1≠0->MixB m
 len:zc8 p V->((qh p V).map fun m=>jw m 20001).sum<=20000->(je p V).length<=30000
theorem zlx {lim:Nat}:∀ (fs:List (List Nat)) (n:Nat),n<=lim->∀ k,ze9 lim fs n=some k->k<=lim
 | [],n,h,k,e=>by cases e;exact h
 | f::fs,n,h,k,e=>by
  unfold ze9 at e
  split at e
  ·cases e
  ·exact zlx fs _ (QB ..) k e
theorem zly {lim len:Nat}:∀ (m k n:Nat),n<=lim->zgl lim len m k n<=lim
 | 0,k,n,h=>h
 | m+1,k,n,h=>by
  unfold zgl
  split
  ·exact zly m _ _ (QB ..)
  ·exact h
theorem zlw {lim:Nat}:∀ (ws:List (List Nat)) (n:Nat),n<=lim->zgk lim ws n<=lim
 | [],n,h=>h
 | w::ws,n,h=>zlw ws _ (zly _ _ _ h)
theorem zqN {lim:Nat} (m:MixD) (h:1<=lim):jw m lim<=lim:=by
 unfold jw
 split
 ·exact Gb _
 ·rename_i n e;exact zlw _ _ (zlx _ _ h _ e)
theorem zka (ths:List (List InsD)):∀ (n:Nat) (vals V:List UInt8),1<=vals.length/\jn vals=vals->zik ths n vals=some V->1<=V.length/\jn V=V
 | 0,vals,V,h,e=>by cases e
 | n+1,vals,V,h,e=>by
  unfold zik at e
  split at e
  ·cases e
  ·split at e
   ·cases e
   ·split at e
    ·cases e;exact h
    ·refine zka ths n _ V ⟨?_,zcY _⟩ e;have:=ziR ths h.2;show 1<=(zby ths vals).length;omega
theorem zlR {p:Prg} {V:List UInt8} (hO:OkG p) (h:zdD p=some V):1<=V.length/\jn V=V :=
 zka _ _ _ _ ⟨ziV hO.i1,zcY _⟩ h
theorem zpw {l:List Nat} (k:Nat):(l.take k).sum<=l.sum:=by
 have:l.sum=(l.take k).sum+(l.drop k).sum:=by rw [<- List.sum_append,JQ]
 omega
theorem zsy {m:MixD} {xs ys:List zaQ} {lim:Nat} (h1:xs.map (·.1)=m.rs.map (·.2)) (h2:ys.map (·.1)=m.wr):zqO lim (xs.map (·.1)) (ys.map (·.1))=jw m lim:=by
 rw [h1,h2];rfl
section
variable {w:Wd} {B most:Nat} {pc:List Value} {p:Prg}
theorem zlK (hB:B<=w.heap.size) (hP:PrgX B w pc p) (hG:GlobE w) (hok:zc6 p=true) (hm20:most<=20000) (hCB:∀ V,jn V=V->CandB p V) :
  Calls PG 12 #[.agg pc.toArray,i64 most] w fun e w'=>((∃ V,zc3 p V most/\∃ (xs:List zbV) (q:OA) (c:Nat),e = .returned (.tuple #[.slice q xs.length c,i64 0])/\xs.map (·.1)=je p V/\OwnS exE 46 w.heap.size w' q c xs/\∀ x∈xs,OwnS evE 49 w.heap.size w' x.2.1 x.2.2 x.1.ev)\/((∀ V,¬ zc3 p V most)/\e = .returned (.tuple #[.slice none 0 0,i64 5])))/\Bw w w':=by
 have hO:=zeO hok;refine qj 74 [.agg pc.toArray,i64 most] (.c .p (.s .p (.s .p (.s .p (.c .p (.s .p (.s .p (.c .p (.c .p (.c .p .p)))))))))) Tryz.func12 ?_;obtain⟨L,hL⟩:=nm (w.heap.size);have hpc:=hP.v.size;refine⟨Unit,fun _=>⟨[(1,i64 most),(2,At0 L)],[]⟩,fun _ X=>X.heap[L]?=some (.cells pc.toArray 29 (0,0))/\L<X.heap.size/\Bw w X,⟨(),⟨.cons rfl (.cons (by rw [hL];rfl) .nil),rfl⟩,by rw [hL];exact zu w _,by rw [hL];exact hlt (zu w _),(zba w _)⟩,?_⟩;rintro _ X ⟨f0,sX,hbX⟩;refine brN (Uh (by omega)) (brN (Uh (by omega)) ⟨pc,hpc,za f0,hlt f0,cmo (zj0 (UO hB hbX.size) (hP.v.below (hbX.mono hB)) (hG.c.below hbX)) ?_⟩);rintro e Y ⟨m,rfl,hm,hbY⟩;have hm0:m=0:=hm.2 hok;subst hm0;refine brF ?_;have hwY:=zst hbX hbY;have f0:=zb hbY f0;refine⟨pc,hpc,za f0,hlt f0,cmo (zpa (UO hB hwY.size) (hP.below (hwY.mono hB)) (hG.below hwY) hok) ?_⟩;rintro e Z ⟨(⟨V,qv,cv,hval,rfl,oV⟩ | ⟨hval,rfl⟩),hbZ⟩
 case inr =>
  refine brT ⟨.inr ⟨fun V h=>?_,rfl⟩,(zst hwY hbZ)⟩;have:=h.1;rw [hval] at this
  cases this
 refine brF ?_;obtain⟨hv1,hVd⟩:=zlR hO hval;have hQ:=hCB V hVd;have uniq:∀ V',zc3 p V' most->V'=V:=fun V' h=>by
  have:=h.1;rw [hval] at this;exact (Uf this).symm
 have hwZ:=zst hwY hbZ;have f0:=zb hbZ f0;clear hbX hbY hwY;obtain⟨V0,hV0⟩:=nm (V);refine⟨Bool×List MixX×OA×Nat,fun s=>⟨[(1,i64 most),(8,.slice s.2.2.1 s.2.1.length s.2.2.2),(9,.bool s.1)],[]⟩,fun s U=>((s.1=true/\zc8 p V/\s.2.1.map (·.m)=qh p V/\OwnS zic 95 w.heap.size U s.2.2.1 s.2.2.2 s.2.1/\∀ x∈s.2.1,NInM w.heap.size (fun k=>w.heap.size<=k) U x)\/(s.1=false/\¬ zc8 p V))/\Bw w U,?_,?_⟩
 ·refine cmo (zp4 f0 (UO hB hwZ.size) (hP.below (hwZ.mono hB)) hO (hG.below hwZ) oV.row hv1 hVd hQ.pb) ?_;rintro e U ⟨(⟨hmo,ms,q,c,rfl,hms,oM,nM⟩ | ⟨hmo,rfl⟩),hbU⟩
  case inr=>exact⟨(false,[],none,0),(cvE rfl rfl),.inr ⟨rfl,hmo⟩,(zst hwZ hbU)⟩
  exact⟨(true,ms,q,c),(cvE rfl rfl),.inl ⟨rfl,hmo,hms,oM.lower hwZ.size,fun x hx=>(nM x hx).lower hwZ.size⟩,(zst hwZ hbU)⟩
 clear oV hbZ hwZ f0;rintro⟨ok,ms,q,c⟩ X ⟨hor,hbX⟩;dsimp only at hor ⊢;rcases hor with ⟨rfl,hmo,hms,oM,nM⟩ | ⟨rfl,hmo⟩
 case inr =>
  exact brT ⟨.inr ⟨fun V' h=>hmo (by rw [<- uniq V' h];exact h.2.1),rfl⟩,hbX⟩
 refine brF ?_;have hml:ms.length<=5000:=by have:=hQ.ml hmo;rw [<- hms,QN] at this;exact this
 have hmc:∀ x∈ms,MixC x.m:=fun x hx=>hQ.mc hmo x.m (by rw [<- hms];exact UL.2 ⟨x,hx,rfl⟩);have hsumE:((qh p V).map fun m=>jw m 20001).sum=(ms.map fun x=>jw x.m 20001).sum:=by
  rw [<- hms,UI];rfl
 have htake:∀ k,((ms.take k).map fun x=>jw x.m 20001).sum<=(ms.map fun x=>jw x.m 20001).sum:=fun k=>by
  have:=zpw (l:=ms.map fun x=>jw x.m 20001) k;rw [<- List.map_take] at this;exact this
 obtain⟨tot,htot⟩:=nm ((ms.map fun x=>jw x.m 20001).sum);have cnt:∀ {Z:Wd} {k lim:Nat} (hk:k<ms.length),OwnS zic 95 w.heap.size Z q c ms->(∀ x∈ms,NInM w.heap.size (fun k=>w.heap.size<=k) Z x)->1<=lim->lim<=100000->∃ b o,q=some ⟨b,o,none⟩/\Calls PG 31 #[.pointer (some ⟨b,o+k*336,none⟩),i64 lim] Z fun e w'=>e = .returned (i64 (jw ms[k].m lim:Nat))/\Z=w':=fun {Z k lim} hk oM nM h1 h2=>by
  obtain⟨b,o,hq,hb,hat⟩:=oM.row.at hk;have hx:=nM ms[k] (gM hk);have hb1:=hmc ms[k] (gM hk);have hxl:ms[k].xs.length=ms[k].m.rs.length:=by have:=Gl List.length hx.e2;simpa using this
  have hyl:ms[k].ys.length=ms[k].m.wr.length:=by have:=Gl List.length hx.e3;simpa using this
  refine⟨b,o,hq,?_⟩;have:=zso (lim:=lim) (r := .slice ms[k].p1 ms[k].m.rs.length ms[k].c1) (hat k hk) hx.r2.own.row hx.r3.own.row (fun y hy=>?_) (fun y hy=>?_) (by have:=hb1.rl;omega) (by have:=hb1.wl;omega) h1 h2
  ·rw [zsy hx.e2 hx.e3] at this;exact this
  ·have h3:y.1∈ms[k].m.rs.map (·.2):=by rw [<- hx.e2];exact UL.2 ⟨y,hy,rfl⟩
   obtain⟨r,hr,he⟩:=UL.1 h3;rw [<- he];exact (hb1.rs r hr).2.1
  ·have h3:y.1∈ms[k].m.wr:=by rw [<- hx.e3];exact UL.2 ⟨y,hy,rfl⟩
   have:=hb1.wr _ h3;omega
 refine⟨Unit,fun _=>⟨[(8,.slice q ms.length c),(10,i64 tot)],[]⟩,fun _ Z=>tot<=most/\X=Z,?_,?_⟩
 ·refine⟨Nat,fun k=>⟨[(1,i64 most),(8,.slice q ms.length c),(10,i64 (((ms.take k).map fun x=>jw x.m 20001).sum:Nat)),(40,i64 ms.length),(41,i64 (k:Nat))],[]⟩,
   fun k Z=>(k<=ms.length/\((ms.take k).map fun x=>jw x.m 20001).sum<=most)/\X=Z,fun k=>ms.length-k,0,(cvE rfl rfl),⟨⟨Gb _,Gb _⟩,rfl⟩,?_⟩
  rintro k _ ⟨⟨hk,hsk⟩,rfl⟩;dsimp only;refine biE (fun hc=>?_) fun hc=>?_
  ·have hc:(k:Int)<(ms.length:Int):=dT hc;have hkl:k<ms.length:=by omega
   obtain⟨b,o,hq,hcall⟩:=cnt (lim:=20001) hkl oM nM (by decide) (by decide);have htk:((ms.take (k+1)).map fun x=>jw x.m 20001).sum=((ms.take k).map fun x=>jw x.m 20001).sum+jw ms[k].m 20001:=by
    rw [tsg hkl,QR,List.sum_append];show _+(jw ms[k].m 20001+0)=_;rw [UN]
   have h1:jw ms[k].m 20001<=20001:=zqN _ (by decide);subst hq;refine⟨k,rfl,hkl,cmo hcall ?_⟩;rintro e _ ⟨rfl,rfl⟩;refine⟨((((ms.take (k+1)).map fun x=>jw x.m 20001).sum:Nat):Int),?_,?_⟩
   ·rw [htk,Int.natCast_add];exact ze (by omega)
   refine biE (fun hbig=>?_) fun hbig=>?_
   ·have hbig:(most:Int)<((((ms.take (k+1)).map fun x=>jw x.m 20001).sum:Nat):Int):=dT hbig;refine⟨.inr ⟨fun V' h=>?_,rfl⟩,hbX⟩;have h2:=uniq V' h;subst h2;have h3:=h.2.2;rw [hsumE] at h3;have:=htake (k+1);omega
   have hbig:¬ (most:Int)<((((ms.take (k+1)).map fun x=>jw x.m 20001).sum:Nat):Int):=dF hbig;exact nxI (by omega) ⟨k+1,(cvE rfl rfl),⟨⟨hkl,by omega⟩,rfl⟩,zdc (by omega)⟩
  ·have hc:¬ (k:Int)<(ms.length:Int):=dF hc;obtain rfl:k=ms.length:=by omega
   rw [Qw,<- htot] at hsk ⊢;exact⟨(),(cvE rfl rfl),hsk,rfl⟩
 rintro _ _ ⟨htm,rfl⟩;have hCO:zc3 p V most:=⟨hval,hmo,by rw [hsumE,<- htot];exact htm⟩;have hsm:((qh p V).map fun m=>jw m 20001).sum<=20000:=UO hCO.2.2 hm20;have hXs:=hbX.size;refine⟨OA×Nat,fun s=>⟨[(8,.slice q ms.length c),(12,.slice s.1 0 s.2)],[]⟩,fun s Z=>OwnS exE 46 X.heap.size Z s.1 s.2 []/\Bw X Z,?_,?_⟩
 ·exact zdk (E:=exE) Tryz.underlying30 k46 rfl (by show _=333;exact jy) rfl tot (by show 2416*tot<=_;omega) (by unfold maxLen;omega) fun Z oZ hbZ sZ=>⟨(some ⟨X.heap.size,0,none⟩,tot),(cvE rfl rfl),oZ,hbZ⟩
 rintro⟨p0,c0⟩ Y ⟨oY,hbY⟩;dsimp only at oY ⊢;refine⟨List zbV×OA×Nat,fun s=>⟨[(12,.slice s.2.1 s.1.length s.2.2)],[]⟩,fun s Z=>s.1.map (·.1)=je p V/\OwnS exE 46 X.heap.size Z s.2.1 s.2.2 s.1/\(∀ x∈s.1,OwnS evE 49 X.heap.size Z x.2.1 x.2.2 x.1.ev)/\Bw X Z,?_,?_⟩
 ·refine⟨Nat×List zbV×OA×Nat,fun s=>⟨[(8,.slice q ms.length c),(12,.slice s.2.2.1 s.2.1.length s.2.2.2),(57,i64 ms.length),(58,i64 (s.1:Nat))],[]⟩,
   fun s Z=>s.1<=ms.length/\s.2.1.map (·.1)=(ms.take s.1).flatMap (fun x=>qV x.m)/\OwnS exE 46 X.heap.size Z s.2.2.1 s.2.2.2 s.2.1/\(∀ x∈s.2.1,OwnS evE 49 X.heap.size Z x.2.1 x.2.2 x.1.ev)/\Bw X Z,fun s=>ms.length-s.1,(0,[],p0,c0),
   (cvE rfl rfl),⟨Gb _,rfl,oY,fun x hx=>(by cases hx),hbY⟩,?_⟩
  clear oY hbY;rintro⟨k,outs,po,co⟩ Z ⟨hk,hou,oZ,nZ,hbZ⟩;dsimp only at hk hou oZ nZ ⊢;have hZs:=hbZ.size;have oMZ:OwnS zic 95 w.heap.size Z q c ms:=oM.same fun a ha=>hbZ.block _ (zy oM ha).2.1;have nMZ:∀ x∈ms,NInM w.heap.size (fun k=>w.heap.size<=k) Z x:=fun x hx=>(nM x hx).same fun {α E T c q l} _ _ _ hr=>⟨hr.own.same fun a ha=>hbZ.block _ (zy hr.own ha).2.1,hr.inF⟩;refine biE (fun hc=>?_) fun hc=>?_
  ·have hc:(k:Int)<(ms.length:Int):=dT hc;have hkl:k<ms.length:=by omega
   obtain⟨b,o,hq,hcall⟩:=cnt (lim:=1) hkl oMZ nMZ (by decide) (by decide);obtain⟨x,hx⟩:∃ x,ms[k]=x:=⟨_,rfl⟩;have hxm:x∈ms:=by rw [<- hx];exact gM hkl
   have htk:(ms.take (k+1)).flatMap (fun x=>qV x.m)=(ms.take k).flatMap (fun x=>qV x.m)++qV x.m:=by
    rw [tsg hkl,Kg,hx,KS,Qp,QK]
   rw [hx] at hcall;have hat:zF Z ⟨b,o+k*336,none⟩ (zoH x):=by
    obtain⟨b',o',hq',_,hat⟩:=oMZ.row.at hkl;rw [hq] at hq';have:=hat k hkl;simp only [KZ,Uu,Gk] at hq';rw [<- hx,hq'.1,hq'.2];exact this
   have hbX2:b<X.heap.size:=(zy oM hq).2.1;subst hq;refine⟨k,rfl,hkl,cmo hcall ?_⟩;rintro e _ ⟨rfl,rfl⟩;refine biE (fun h=>?_) fun h=>?_
   ·have h:jw x.m 1=0:=Uz (dT h);have hc0:qV x.m=[]:=Gr h;rw [hc0,QK] at htk;exact nxI (by omega) ⟨(k+1,outs,po,co),(cvE rfl rfl),⟨hkl,by rw [hou,htk],oZ,nZ,hbZ⟩,zdc (by omega)⟩
   have h:jw x.m 1≠0:=fun e=>(dF h) (by rw [e];rfl);have hc1:qV x.m=zdv x.m:=Gq h;rw [hc1] at htk;refine⟨k,rfl,hkl,cmo zsC ?_⟩;rintro e U ⟨rfl,fU,sU,hbU⟩;have hxM:=nMZ x hxm;have hxB:=hQ.mb hmo hsm x.m (by rw [<- hms];exact UL.2 ⟨x,hxm,rfl⟩) h;obtain⟨Rd,hRd⟩:∃ Rd:Nat->Prop,Rd=fun k=>k<X.heap.size\/k=Z.heap.size:=⟨_,rfl⟩;have ltX:∀ {α:Type} {E:Enc α} {T cc:Nat} {r:OA} {ll:List α},RowIn E T w.heap.size (fun k=>w.heap.size<=k) X r cc ll->∀ a,r=some a->Rd a.block:=fun {α E T cc r ll} h a ha=>by rw [hRd];exact .inl (zy h.own ha).2.1
   have hX:=nM x hxm;have hM:MixM Rd U b (o+k*336) x.m x.q x.c x.p1 x.p2 x.p3 x.c1 x.c2 x.c3 x.xs x.ys:=by
    have r:∀ {α:Type} {E:Enc α} {T cc:Nat} {r:OA} {ll:List α},RowIn E T w.heap.size (fun k=>w.heap.size<=k) Z r cc ll->SlR E U r ll:=fun {α E T cc r ll} h=>(h.own.below hbU).row;refine⟨zq hbU hat,r hxM.ev,fun e=>?_,r hxM.r1,hxM.e2,r hxM.r2,fun y hy=>r (hxM.n2 y hy),hxM.e3,r hxM.r3,fun y hy=>r (hxM.n3 y hy),by rw [hRd];exact .inl hbX2,ltX hX.ev,ltX hX.r1,ltX hX.r2,ltX hX.r3,fun y hy=>ltX (hX.n2 y hy),fun y hy=>ltX (hX.n3 y hy)⟩;rcases hxM.ev.own.inv with ⟨_,h,_⟩ | ⟨g,cur,h,_⟩
    ·exact h
    ·rw [e] at h;cases h
   have hRl:∀ k,Rd k->k<U.heap.size:=fun k hk=>by
    rw [hRd] at hk;omega
   have hTU:Tz64M U:=hG.t64.below (hbX.trans ((hbZ.trans (hbU.mono hZs)).mono hXs));have htz:=zaT hG.t64;have hI:=zsD hM fU (by rw [hRd];exact .inr rfl) hRl hTU (by rw [hRd];left;omega) hxB hxB.ev;have hln:outs.length+(zdv x.m).length<=30000:=by
    have h2:=hQ.len hmo hsm;have h3:(je p V)=ms.flatMap (fun x=>qV x.m):=by
     show (qh p V).flatMap qV=_;rw [<- hms,Qo]
    rw [h3] at h2;have h4:ms.flatMap (fun x=>qV x.m)=(ms.take (k+1)).flatMap (fun x=>qV x.m)++(ms.drop (k+1)).flatMap (fun x=>qV x.m):=(by rw [<- Kg,JQ]);rw [h4,htk,<- hou,lap,lap,QN] at h2;omega
   refine cmo (zlM (oZ.below hbU) (fun y hy=>(nZ y hy).below hbU) (by omega) hI (UY _) (fun k hk=>⟨hRl k hk,rfl⟩) (fun k hk=>by rw [hRd] at hk;exact hk) fU (by omega) hln) ?_;rintro e T ⟨⟨new,pn,cn,rfl,zu,oT,nT⟩,hbT⟩;exact nxI (by omega) ⟨(k+1,outs++new,pn,cn),(cvE rfl rfl),⟨hkl,by rw [QR,hou,zu,htk],oT,nT,(hbZ.trans (hbU.mono hZs)).trans hbT⟩,zdc (by omega)⟩
  ·have hc:¬ (k:Int)<(ms.length:Int):=dF hc;obtain rfl:k=ms.length:=by omega
   rw [Qw] at hou;refine⟨(outs,po,co),(cvE rfl rfl),?_,oZ,nZ,hbZ⟩;rw [hou];show ms.flatMap _=(qh p V).flatMap qV;rw [<- hms,Qo]
 rintro⟨outs,po,co⟩ Z ⟨hou,oZ,nZ,hbZ⟩;exact⟨.inl ⟨V,hCO,outs,po,co,rfl,hou,oZ.lower hXs,fun x hx=>(nZ x hx).lower hXs⟩,hbX.trans (hbZ.mono hXs)⟩
end
def Rds (ev:Nat->Ev) (n s:Nat):Prop:=∀ b,s.testBit b=true->b<n/\(ev b).k=1
theorem zgZ (ev:Nat->Ev) (n:Nat):Rds ev n 0:=fun b h=>by simp at h
theorem Rds.or {ev:Nat->Ev} {n s t:Nat} (h:Rds ev n s) (k:Rds ev n t):Rds ev n (s|||t):=fun b hb=>by
 rw [Ur,QH] at hb;exact hb.elim (h b) (k b)
theorem Rds.mono {ev:Nat->Ev} {n m s:Nat} (h:Rds ev n s) (hm:n<=m):Rds ev m s:=fun b hb=>⟨nL (h b hb).1 hm,(h b hb).2⟩
theorem zgt {ev:Nat->Ev} {n b:Nat} (hb:b<n) (hk:(ev b).k=1):Rds ev n (2^b):=fun c hc=>by
 rw [Ko] at hc;have e:b=c:=dT hc;rw [<- e];exact⟨hb,hk⟩
theorem Rds.upd {ev:Nat->Ev} {n m s:Nat} {e:Ev} (h:Rds ev n s) (hm:n<=m):Rds (upd ev m e) n s:=fun b hb=>by
 obtain⟨h1,h2⟩:=h b hb;rw [qk _ _ (by omega)];exact⟨h1,h2⟩
def zsR (k i:Nat) (e:Ev):Prop:=e.th=0/\e.p=UInt8.ofNat i/\(((e.k=1\/e.k=2)/\e.l.toNat<k)\/(e.k=3/\e.l=0/\e.v=0))
structure RunW (k:Nat) (R:RunD):Prop where
 ev:∀ i,i<R.many->zsR k i (R.ev i)
 deps:∀ j,Rds R.ev R.many (R.deps j)
 ctl:Rds R.ev R.many R.ctl
 data:∀ i,i<R.many->Rds R.ev i (R.data i)/\(R.data i≠0->(R.ev i).k=2)
 ctrl:∀ i,i<R.many->Rds R.ev i (R.ctrl i)
 att:∀ i,i<R.many->R.att i=0\/∃ b,i=b+1/\R.att i=2^b/\(R.ev b).k=1/\(R.ev i).k=2/\(R.ev b).l=(R.ev i).l
 fresh:∀ i,R.many<=i->R.att i=0
theorem ztp (k:Nat):RunW k zkv where
 ev:=fun i h=>Gs h (Ub i)
 deps:=fun j=>zgZ _ _
 ctl:=zgZ _ _
 data:=fun i h=>Gs h (Ub i)
 ctrl:=fun i h=>Gs h (Ub i)
 att:=fun i h=>Gs h (Ub i)
 fresh:=fun i _=>rfl
section
variable {k:Nat} {R:RunD} {x:InsD} {v:UInt8}
theorem RunW.val (h:RunW k R) (r:Bool) (n:UInt8):Rds R.ev R.many (qF r n R).2:=by
 unfold qF
 split
 ·exact h.deps _
 ·exact zgZ _ _
theorem RunW.emit (h:RunW k R) {kd l v m:UInt8} {d:Nat} (he:((kd=1\/kd=2)/\l.toNat<k)\/(kd=3/\l=0/\v=0)) (hd:Rds R.ev R.many d) (hk:d≠0->kd=2):RunW k (za5 R kd l v m d):=by
 have old:∀ {i:Nat},i<R.many->upd R.ev R.many ⟨0,kd,l,v,m,UInt8.ofNat R.pc,UInt8.ofNat R.many⟩ i=R.ev i:=fun {i} hi=>qk _ _ (by omega);have new:upd R.ev R.many ⟨0,kd,l,v,m,UInt8.ofNat R.pc,UInt8.ofNat R.many⟩ R.many=⟨0,kd,l,v,m,UInt8.ofNat R.pc,UInt8.ofNat R.many⟩:=zP _ _ _;have spl:∀ {i:Nat},i<R.many+1->i=R.many\/i<R.many:=fun {i} hi=>by omega
 refine⟨fun i hi=>?_,fun j=>(((h.deps j).upd (UY _)).mono (Nat.le_succ _)),(h.ctl.upd (UY _)).mono (Nat.le_succ _),fun i hi=>?_,fun i hi=>?_,fun i hi=>?_,fun i hi=>h.fresh i (by have:R.many+1<=i:=hi;omega)⟩
 ·show zsR k i (upd R.ev R.many _ i);rcases spl hi with e | hi
  ·rw [e,new];exact⟨rfl,rfl,he⟩
  ·rw [old hi];exact h.ev i hi
 ·show Rds (upd R.ev R.many _) i (upd R.data R.many d i)/\(upd R.data R.many d i≠0->(upd R.ev R.many _ i).k=2);rcases spl hi with e | hi
  ·rw [e,zP,new];exact⟨hd.upd (UY _),hk⟩
  ·rw [qk _ _ (by omega),old hi];exact⟨(h.data i hi).1.upd (Nat.le_of_lt hi),(h.data i hi).2⟩
 ·show Rds (upd R.ev R.many _) i (upd R.ctrl R.many R.ctl i);rcases spl hi with e | hi
  ·rw [e,zP];exact h.ctl.upd (UY _)
  ·rw [qk _ _ (by omega)];exact (h.ctrl i hi).upd (Nat.le_of_lt hi)
 ·show R.att i=0\/∃ b,i=b+1/\R.att i=2^b/\(upd R.ev R.many _ b).k=1/\(upd R.ev R.many _ i).k=2/\(upd R.ev R.many _ b).l=(upd R.ev R.many _ i).l;rcases spl hi with e | hi
  ·exact .inl (h.fresh i (by omega))
  ·rcases h.att i hi with h0 | ⟨b,hb,h1,h2,h3,h4⟩
   ·exact .inl h0
   ·refine .inr ⟨b,hb,h1,?_⟩;rw [old hi,old (by omega)];exact⟨h2,h3,h4⟩
theorem RunW.set (h:RunW k R) {d v:UInt8} {s:Nat} (hs:Rds R.ev R.many s):RunW k (zjf R d v s):=by
 refine⟨h.ev,fun j=>?_,h.ctl,h.data,h.ctrl,h.att,h.fresh⟩;show Rds R.ev R.many (upd R.deps d.toNat s j);by_cases e:j=d.toNat
 ·rw [e,zP];exact hs
 ·rw [qk _ _ e];exact h.deps j
structure ExchW (k:Nat) (R S:RunD) (x:InsD):Prop where
 w:RunW k S
 m:S.many=R.many+2
 k1:(S.ev R.many).k=1
 k2:(S.ev (R.many+1)).k=2
 a:S.att (R.many+1)=2^R.many
theorem RunW.exch (h:RunW k R) (hl:x.loc.toNat<k) {o v:UInt8} {d:Nat} (hd:Rds R.ev R.many d):ExchW k R (zc7 R x o v d) x:=by
 have h1:=h.emit (kd:=1) (l:=x.loc) (v:=o) (m:=3) (d:=0) (.inl ⟨.inl rfl,hl⟩) (zgZ _ _) (fun e=>Gs rfl e);have hd1:Rds (za5 R 1 x.loc o 3 0).ev (R.many+1) d:=(hd.upd (UY _)).mono (Nat.le_succ _);have h2:=h1.emit (kd:=2) (l:=x.loc) (v:=v) (m:=3) (d:=d) (.inl ⟨.inr rfl,hl⟩) hd1 (fun _=>rfl);obtain⟨S,hS⟩:=nm (za5 (za5 R 1 x.loc o 3 0) 2 x.loc v 3 d);rw [<- hS] at h2;have sm:S.many=R.many+2:=by rw [hS];rfl
 have e1:S.ev R.many=⟨0,1,x.loc,o,3,UInt8.ofNat R.pc,UInt8.ofNat R.many⟩:=by
  rw [hS];show upd (upd R.ev R.many _) (R.many+1) _ R.many=_;rw [qk _ _ (by omega),zP]
 have e2:S.ev (R.many+1)=⟨0,2,x.loc,v,3,UInt8.ofNat R.pc,UInt8.ofNat (R.many+1)⟩:=by
  rw [hS];show upd (upd R.ev R.many _) (R.many+1) _ (R.many+1)=_;rw [zP];rfl
 have h3:RunW k { S with att:=upd S.att (R.many+1) (2^R.many) }:=by
  refine⟨h2.ev,h2.deps,h2.ctl,h2.data,h2.ctrl,fun i hi=>?_,fun i hi=>?_⟩
  ·show upd S.att (R.many+1) (2^R.many) i=0\/∃ b,i=b+1/\upd S.att (R.many+1) (2^R.many) i=2^b/\(S.ev b).k=1/\(S.ev i).k=2/\(S.ev b).l=(S.ev i).l;by_cases e:i=R.many+1
   ·rw [e,zP];exact .inr ⟨R.many,rfl,rfl,by rw [e1],by rw [e2],by rw [e1,e2]⟩
   ·rw [qk _ _ e];exact h2.att i hi
  ·show upd S.att (R.many+1) (2^R.many) i=0;have hi:S.many<=i:=hi;rw [qk _ _ (by omega)];exact h2.fresh i hi
 have h4:=RunW.set (d:=x.dst) (v:=o) h3 (zgt (b:=R.many) (by show R.many<S.many;omega) (by show (S.ev R.many).k=1;rw [e1]));have e5:zc7 R x o v d=zjf { S with att:=upd S.att (R.many+1) (2^R.many) } x.dst o (2^R.many):=by rw [hS];rfl
 rw [e5];exact⟨h4,sm,by show (S.ev R.many).k=1;rw [e1],by show (S.ev (R.many+1)).k=2;rw [e2],zP _ _ _⟩
theorem ExchW.rd {S:RunD} (h:ExchW k R S x):Rds S.ev (R.many+1) (2^R.many):=zgt (QA _) h.k1
theorem RunW.fetch (h:RunW k R) (hl:x.loc.toNat<k):RunW k (zfH R x v):=by
 have h1:=RunW.exch (o:=v) (v:=v+(qF x.ar x.an R).1) (d:=(qF x.ar x.an R).2) h hl (h.val x.ar x.an);obtain⟨S,hS⟩:=nm (zc7 R x v (v+(qF x.ar x.an R).1) (qF x.ar x.an R).2);rw [<- hS] at h1;have e:zfH R x v={ S with data:=upd S.data (R.many+1) (S.data (R.many+1)|||S.att (R.many+1)) }:=by rw [hS];rfl
 rw [e];have hw:=h1.w;have hm:=h1.m;refine⟨hw.ev,hw.deps,hw.ctl,fun i hi=>?_,hw.ctrl,hw.att,hw.fresh⟩;show Rds S.ev i (upd S.data (R.many+1) _ i)/\(upd S.data (R.many+1) _ i≠0->(S.ev i).k=2);by_cases e:i=R.many+1
 ·rw [e,zP,h1.a];exact⟨(hw.data _ (by omega)).1.or h1.rd,fun _=>h1.k2⟩
 ·rw [qk _ _ e];exact hw.data i hi
theorem RunW.cas (h:RunW k R) (hl:x.loc.toNat<k):RunW k (zd2 R x v):=by
 by_cases hv:v=(qF x.ar x.an R).1
 ·have h1:=RunW.exch (o:=v) (v:=(qF x.br x.bn R).1) (d:=(qF x.br x.bn R).2) h hl (h.val x.br x.bn);obtain⟨S,hS⟩:=nm (zc7 R x v (qF x.br x.bn R).1 (qF x.br x.bn R).2);rw [<- hS] at h1;have hw:=h1.w;have hm:=h1.m;have ha:Rds S.ev (R.many+1) (qF x.ar x.an R).2:=by
   have h2:Rds R.ev R.many (qF x.ar x.an R).2:=h.val _ _;have e1:∀ b,b<R.many->S.ev b=R.ev b:=fun b hb=>by
    rw [hS];show upd (upd R.ev R.many _) (R.many+1) _ b=_;rw [qk _ _ (by omega),qk _ _ (by omega)]
   intro b hb;obtain⟨c1,c2⟩:=h2 b hb;rw [e1 b c1];exact⟨by omega,c2⟩
  have e:zd2 R x v={ S with ctrl:=upd S.ctrl (R.many+1) (S.ctrl (R.many+1)|||(S.att (R.many+1)|||(qF x.ar x.an R).2)) }:=by
   unfold zd2;rw [Gr hv,hS]
  rw [e];clear e;refine⟨hw.ev,hw.deps,hw.ctl,hw.data,fun i hi=>?_,hw.att,hw.fresh⟩;show Rds S.ev i (upd S.ctrl (R.many+1) _ i);by_cases e:i=R.many+1
  ·rw [e,zP,h1.a];exact (hw.ctrl _ (by omega)).or (h1.rd.or ha)
  ·rw [qk _ _ e];exact hw.ctrl i hi
 ·have e:zd2 R x v=zjf (za5 R 1 x.loc v 3 0) x.dst v (2^R.many):=by unfold zd2;rw [Gq hv]
  rw [e];have h1:=h.emit (kd:=1) (l:=x.loc) (v:=v) (m:=3) (d:=0) (.inl ⟨.inl rfl,hl⟩) (zgZ _ _) (fun e=>Gs rfl e);refine RunW.set h1 (zgt (b:=R.many) (QA _) ?_);show (upd R.ev R.many _ R.many).k=1;rw [zP]
theorem RunW.pc (h:RunW k R) (n:Nat):RunW k { R with pc:=n }:=⟨h.ev,h.deps,h.ctl,h.data,h.ctrl,h.att,h.fresh⟩
theorem RunW.eff (h:RunW k R) (hx:ExG x) (hl:x.op=1\/x.op=2\/x.op=4\/x.op=5\/x.op=6->x.loc.toNat<k):RunW k (ze5 R x v):=by
 rcases hx with ⟨e,-⟩ | ⟨e,-⟩ | ⟨e,-⟩ | ⟨e,-⟩ | ⟨e,-⟩ | ⟨e,-⟩ | e | ⟨e,-⟩
 ·rw [qm.1 e];have h1:=h.emit (kd:=1) (l:=x.loc) (v:=v) (m:=x.mode) (d:=0) (.inl ⟨.inl rfl,hl (.inl e)⟩) (zgZ _ _) (fun e=>Gs rfl e);refine RunW.set h1 (zgt (b:=R.many) (QA _) ?_);show (upd R.ev R.many _ R.many).k=1;rw [zP]
 ·rw [qm.2.1 e];exact h.emit (.inl ⟨.inr rfl,hl (.inr (.inl e))⟩) (h.val _ _) (fun _=>rfl)
 ·rw [qm.2.2.1 e];exact h.set ((h.val _ _).or (h.val _ _))
 ·rw [qm.2.2.2.1 e];exact (h.exch (hl (.inr (.inr (.inl e)))) (h.val _ _)).w
 ·rw [qm.2.2.2.2.1 e];exact h.fetch (hl (.inr (.inr (.inr (.inl e)))))
 ·rw [qm.2.2.2.2.2.1 e];exact h.cas (hl (.inr (.inr (.inr (.inr e)))))
 ·rw [qm.2.2.2.2.2.2.1 e];exact h.emit (.inr ⟨rfl,rfl,rfl⟩) (zgZ _ _) (fun e=>Gs rfl e)
 ·rw [qm.2.2.2.2.2.2.2 e];have h1:RunW k { R with ctl:=R.ctl|||((qF x.ar x.an R).2|||(qF x.br x.bn R).2) }:=⟨h.ev,h.deps,h.ctl.or ((h.val _ _).or (h.val _ _)),h.data,h.ctrl,h.att,h.fresh⟩;unfold zb2;dsimp only
  split
  ·exact h1.pc _
  ·exact h1
theorem RunW.exec (h:RunW k R) (hx:ExG x) (hl:x.op=1\/x.op=2\/x.op=4\/x.op=5\/x.op=6->x.loc.toNat<k):RunW k (qs R x v):=RunW.pc (h.eff hx hl) _
end
def ThW (k:Nat) (l:List InsD):Prop:=∀ x∈l,ExG x/\(x.op=1\/x.op=2\/x.op=4\/x.op=5\/x.op=6->x.loc.toNat<k)
theorem ztk {l:List InsD} {k:Nat} (h:qy l k=true):ThW k l:=fun x hx=>by
 unfold qy at h;rw [bAT,dE,Qj] at h;obtain⟨i,hi,rfl⟩:=Ki hx;have:=h.2 i (Uo.2 hi);rw [gE hi] at this;exact⟨(zjI this).1,(zjI this).2.2⟩
theorem RunW.go {k:Nat} {l:List InsD} (ht:ThW k l):∀ (n:Nat) (S:RunD),RunW k S->RunW k (goR l n S)
 | 0,S,h=>h
 | n+1,S,h=>by
  show RunW k (match l[S.pc]? with | none=>S | some x=>if zcg x then S else goR l n (qs S x 0))
  cases hg:l[S.pc]? with
  | none=>exact h
  | some x =>
   dsimp only
   split
   ·exact h
   ·obtain⟨a,b⟩:=ht x (JZ hg);exact RunW.go ht n _ (h.exec a b)
theorem RunW.spread {k:Nat} {l:List InsD} (ht:ThW k l) (dom:List UInt8):∀ (n:Nat) (S:RunD),RunW k S->∀ R∈z9 l dom n S,RunW k R
 | 0,S,h,R,hR=>by
  have hR:R∈[goR l l.length S]:=hR;rw [KA] at hR;rw [hR];exact RunW.go ht _ _ h
 | n+1,S,h,R,hR=>by
  have hT:=RunW.go ht l.length S h;have hR:R∈(match l[(goR l l.length S).pc]? with | none=>[goR l l.length S] | some x=>dom.flatMap fun v=>z9 l dom n (qs (goR l l.length S) x v)):=hR
  cases hg:l[(goR l l.length S).pc]? with
  | none =>
   rw [hg] at hR;have hR:=KA.1 hR;rw [hR];exact hT
  | some x =>
   rw [hg] at hR;obtain⟨v,-,hv⟩:=List.mem_flatMap.1 hR;obtain⟨a,b⟩:=ht x (JZ hg);exact RunW.spread ht dom n _ (hT.exec a b) R hv
theorem zqy {l:List InsD} {k:Nat} (h:qy l k=true) (dom:List UInt8):∀ R∈qC l dom,RunW k R/\R.many<=24:=fun R hR =>
 ⟨RunW.spread (ztk h) dom _ _ (ztp k) R hR,(zgB (zlT h) dom R hR).1⟩
structure PathW (k:Nat) (P:PathD):Prop where
 n:P.ev.length<=24
 ev:∀ i e,P.ev[i]?=some e->zsR k i e
 dt:∀ p∈P.data,∃ a b,P.ev[p.1]?=some a/\P.ev[p.2]?=some b/\p.1<p.2/\a.k=1/\b.k=2
 ct:∀ p∈P.ctrl,∃ a b,P.ev[p.1]?=some a/\P.ev[p.2]?=some b/\p.1<p.2/\a.k=1
 rm:∀ p∈P.rmw,∃ a b,P.ev[p.1]?=some a/\P.ev[p.2]?=some b/\p.2=p.1+1/\a.k=1/\b.k=2/\a.l=b.l
 dtl:P.data.length<=100000
 ctl:P.ctrl.length<=100000
 rml:P.rmw.length<=100000
theorem zeh {f:Nat->Nat} {n:Nat} {p:Nat×Nat} (h:p∈zcR f n):p.2<n/\(f p.2).testBit p.1=true:=by
 unfold zcR at h;obtain⟨i,hi,h⟩:=List.mem_flatMap.1 h;obtain⟨a,ha,rfl⟩:=UL.1 h;exact⟨Uo.1 hi,(qJ.1 ha).2⟩
theorem zfz (f:Nat->Nat) {n:Nat} (h:n<=24):(zcR f n).length<=100000:=by
 rw [<- zdH];have:=zfy ((List.range n).map f) 0;rw [QN,KV] at this;omega
theorem zcV {R:RunD} {i:Nat} (h:i<R.many):(zas R).ev[i]?=some (R.ev i):=by
 show ((List.range R.many).map R.ev)[i]?=_;rw [KU,Kh h];rfl
theorem ztB {k:Nat} {R:RunD} (h:RunW k R) (hm:R.many<=24):PathW k (zas R):=by
 have hl:(zas R).ev.length=R.many:=by show ((List.range R.many).map R.ev).length=_;rw [QN,KV]
 refine⟨by omega,fun i e he=>?_,fun p hp=>?_,fun p hp=>?_,fun p hp=>?_,zfz _ hm,zfz _ hm,zfz _ hm⟩
 ·have hi:i<R.many:=by rw [<- hl];exact (Js.1 he).1
  rw [zcV hi] at he;rw [<- Uf he];exact h.ev i hi
 ·obtain⟨h1,h2⟩:=zeh hp;obtain⟨h3,h4⟩:=h.data _ h1;obtain⟨h5,h6⟩:=h3 _ h2;exact⟨_,_,zcV (by omega),zcV h1,h5,h6,h4 (fun e=>by rw [e] at h2;simp at h2)⟩
 ·obtain⟨h1,h2⟩:=zeh hp;obtain⟨h5,h6⟩:=h.ctrl _ h1 _ h2;exact⟨_,_,zcV (by omega),zcV h1,h5,h6⟩
 ·obtain⟨h1,h2⟩:=zeh hp;rcases h.att _ h1 with e | ⟨b,e1,e2,e3,e4,e5⟩
  ·rw [e] at h2;simp at h2
  ·rw [e2,Ko] at h2;have e:b=p.1:=dT h2;subst e;exact⟨_,_,zcV (by omega),zcV h1,e1,e3,e4,e5⟩
theorem PathW.b {k:Nat} {P:PathD} (h:PathW k P):PathB k P:=by
 have lt:∀ {i:Nat} {e:Ev},P.ev[i]?=some e->i<P.ev.length:=fun {i e} he=>(Js.1 he).1;refine⟨h.n,fun e he hk=>?_,fun p hp=>?_,fun p hp=>?_,fun p hp=>?_,h.dtl,h.ctl,h.rml⟩
 ·obtain⟨i,hi,rfl⟩:=Ki he;rcases (h.ev i _ (gE hi)).2.2 with h1 | ⟨h1,_⟩
  ·exact h1.2
  ·rw [h1] at hk;rcases hk with hk | hk <;> exact Gs hk (by decide)
 ·obtain⟨a,b,h1,h2,_⟩:=h.dt p hp;exact⟨lt h1,lt h2⟩
 ·obtain⟨a,b,h1,h2,_⟩:=h.ct p hp;exact⟨lt h1,lt h2⟩
 ·obtain⟨a,b,h1,h2,_⟩:=h.rm p hp;exact⟨lt h1,lt h2⟩
end Go.Proofs.YtkpaomeeknegpaaGreatDoor
namespace Go.Sei
def jl (a b : RelD) : Bool := decide (a.n = b.n) && (List.range 48).all fun i => decide (a.to i = b.to i)
def qi (ev : List Ev) : Nat := (ev.takeWhile fun e => decide (e.th = -1)).length
def zbW (locs : Nat) : Nat → List Ev → Int → Nat → Bool
  | _, [], _, _ => true
  | i, e :: es, t, n =>
    if i < locs then (if e = ⟨-1, 2, UInt8.ofNat i, e.v, 0, 0, 0⟩ then zbW locs (i + 1) es t n else false)
    else if e.th < t ∨ 4 ≤ e.th then false
    else
      let t' := if t < e.th then e.th else t
      let n' := if t < e.th then 0 else n
      if e.p.toNat = n' then
        (if e.k = 1 ∨ e.k = 2 then (if e.l.toNat < locs then zbW locs (i + 1) es t' (n' + 1) else false)
         else if e.k = 3 then (if e.l = 0 ∧ e.v = 0 then zbW locs (i + 1) es t' (n' + 1) else false)
         else false)
      else false
def jr (ev : List Ev) (locs : Nat) : Bool := zbW locs 0 ev 0 0
def evA (x : ExD) (i : Nat) : Ev := x.ev.getD i ev0
def zbL (x : ExD) (s : Nat) (e : Ev) : Bool :=
  if e.k = 1 then (if s = 0 then false else
    (if s = 2 ^ ctz s then decide ((evA x (ctz s)).k = 2) && (decide ((evA x (ctz s)).l = e.l) && decide ((evA x (ctz s)).v = e.v)) else false))
  else decide (s = 0)
def zal (x : ExD) : Bool := (List.range x.ev.length).all fun i => zbL x ((zQ x.rf).to i) (evA x i)
def jh (key : Nat → Nat) : List Nat → Nat → List Nat
  | [], x => [x]
  | y :: r, x => if key y < key x then y :: jh key r x else x :: y :: r
def zde (key : Nat → Nat) (l : List Nat) : List Nat := (l.foldl (fun acc x => jh key acc x) []).reverse
def zbP (s : Nat) : Nat := (els s).length
def zY (x : ExD) (l : Nat) : List Nat := (List.range x.ev.length).filter fun i => decide ((evA x i).k = 2) && decide ((evA x i).l.toNat = l)
def zN (x : ExD) (l : Nat) : List Nat := zde (fun i => zbP (x.co.to i)) (zY x l)
def ze8 (x : ExD) : Nat → Nat → RelD × (Nat → UInt8) → Option (RelD × (Nat → UInt8))
  | 0, _, p => some p
  | n + 1, l, p => if (zN x l).headD 48 = l then ze8 x n (l + 1) (j7 (zN x l) p.1, upd p.2 l (zbQ x.ev (zN x l))) else none
def j6 (x : ExD) (locs : Nat) : Bool := match ze8 x locs 0 (⟨x.ev.length, fun _ => 0⟩, fun _ => 0) with
  | none => false
  | some p => jl p.1 x.co && (List.range 6).all fun l => decide (p.2 l = x.mem l)
def zaS (x : ExD) : Nat := (List.range x.ev.length).foldl (fun s i => if (evA x i).k = 2 then s ||| 2 ^ i else s) 0
def zcA (x : ExD) (W : Nat) : Nat → List Ev → Nat → Bool
  | _, [], _ => true
  | i, e :: es, h =>
    let d := x.dt.to i
    let c := x.ct.to i
    let r := x.rm.to i
    if d ||| c ||| r = 0 then zcA x W (i + 1) es h
    else if e.k = 1 ∧ jD (d ||| r) W = 0 ∧ jD (d ||| c ||| r) (x.po.to i) = 0 then
      (if r = 0 then zcA x W (i + 1) es h
       else if r = 2 ^ ctz r ∧ h.testBit (ctz r) = false ∧ (evA x (ctz r)).l = e.l then zcA x W (i + 1) es (h ||| r) else false)
    else false
def zaB (x : ExD) : Bool := zcA x (zaS x) 0 x.ev 0
def zaN (x : ExD) : Bool := [x.po, x.rf, x.co, x.dt, x.ct, x.rm].all fun r => decide (r.n = x.ev.length) && okR r
def qN (x : ExD) : Bool :=
  decide (x.ev.length ≤ 48) && (decide (1 ≤ qi x.ev) && (decide (qi x.ev ≤ 6) && (jr x.ev (qi x.ev) && (zaN x && (jl x.po (poR x.ev) && (zal x && (j6 x (qi x.ev) && zaB x)))))))
def zd1 (f:Nat->Bool) (n:Nat):Nat:=((List.range n).filter f).length
theorem zmp (e:Ev) (es:List Ev):qi (e::es)=if e.th = -1 then qi es+1 else 0:=by
 unfold qi;rw [Kn];by_cases h:e.th = -1
 ·rw [Gr (Us h),Gr h,Qs]
 ·rw [Gq (by simp [h]),Gq h];rfl
section
variable {L:List Ev} {locs:Nat}
theorem zcB (f:Nat->Bool) (n:Nat):zd1 f (n+1)=zd1 f n+if f n=true then 1 else 0:=by
 unfold zd1;rw [QW,Kv,lap,Qn,List.filter_nil]
 split <;> rfl
theorem zqL {f:Nat->Bool} {n:Nat} (h:∀ k,k<n->f k=false):zd1 f n=0:=by
 unfold zd1;rw [List.length_eq_zero_iff,JD];intro k hk;rw [h k (Uo.1 hk)];decide
end
theorem ziS (ev:List Ev) (a k:Nat):(ev.drop a).getD k ev0=ev.getD (a+k) ev0:=by
 rw [gDe,gDe,Kw]
end Go.Sei
namespace Go.Proofs.YtkpaomeeknegpaaGreatDoor
open Go.Vc Go.RowKit Go.Sei
structure ExV (w:Wd) (x:ExD) (q:OA):Prop where
 ev:SlR evE w q x.ev
 n:x.ev.length<=20
 po:zH x.po.to
 rf:zH x.rf.to
 co:zH x.co.to
 dt:zH x.dt.to
 ct:zH x.ct.to
 rm:zH x.rm.to
structure ExW (w:Wd) (x:ExD) (q:OA):Prop where
 ev:SlR evE w q x.ev
 n:x.ev.length<=48
 w20:∀ l,(zY x l).length<=20
 po:zH x.po.to
 rf:zH x.rf.to
 co:zH x.co.to
 dt:zH x.dt.to
 ct:zH x.ct.to
 rm:zH x.rm.to
theorem ExV.w {w:Wd} {x:ExD} {q:OA} (h:ExV w x q):ExW w x q:=by
 refine⟨h.ev,by have:=h.n;omega,fun l=>?_,h.po,h.rf,h.co,h.dt,h.ct,h.rm⟩;have h1:(zY x l).length<=x.ev.length:=by
  refine UO (JM ..) ?_;rw [KV];exact UY _
 have:=h.n;omega
theorem ExW.below {w w2:Wd} {x:ExD} {q:OA} (h:ExW w x q) (hb:Bw w w2):ExW w2 x q:=⟨h.ev.below hb,h.n,h.w20,h.po,h.rf,h.co,h.dt,h.ct,h.rm⟩
theorem ExV.below {w w2:Wd} {x:ExD} {q:OA} (h:ExV w x q) (hb:Bw w w2):ExV w2 x q:=⟨h.ev.below hb,h.n,h.po,h.rf,h.co,h.dt,h.ct,h.rm⟩
theorem zcl {w:Wd} {q:OA} {l:List Ev} (h:SlR evE w q l) {i:Nat} (hi:i<l.length):∃ b o,q=some ⟨b,o,none⟩/\b<w.heap.size/\zF w ⟨b,o+i*7,none⟩ (evE.enc (l.getD i ev0)):=by
 obtain⟨b,o,hq,hb,hat⟩:=h.at hi;refine⟨b,o,hq,hb,?_⟩;rw [gDe,gE hi];exact hat i hi
theorem zu7:TyEq PG 36 false 1 1 (fun cs=>∃ x,cs=[.int .u64 x]) := .int Tryz.underlying36 (fun w=>Tryz.isAgg36 w) (jO (by kernel_rfl) (by kernel_rfl)).1 (by kernel_rfl)
theorem zuC:TyEq PG 3 false 1 1 (fun cs=>∃ x,cs=[.int .i64 x]) := .int Tryz.underlying3 (fun w=>Tryz.isAgg3 w) (jO (by kernel_rfl) (by kernel_rfl)).1 (by kernel_rfl)
theorem zuz:∃ G,TyEq PG 37 true 48 2 G/\∀ f:Nat->Nat,G (zaV f):=by
 refine⟨_,.array (m:=48) (by decide) Tryz.underlying37 (fun w=>Tryz.isAgg37 w) (jO (by kernel_rfl) (by kernel_rfl)).1 (by kernel_rfl) zu7,fun f i hi=>⟨(f i:Nat),?_⟩⟩;unfold qQ;have h:=zcP f hi;rw [UZ];have hl:i<(zaV f).length:=by rw [zbj];exact hi
 rw [<- JF hl,List.take_succ_cons,Up];rw [gE hl] at h;rw [Uf h];rfl
theorem zuA:∃ G,TyEq PG 39 true 49 3 G/\∀ r:RelD,G (zf r):=by
 obtain⟨G,h1,h2⟩:=zuz;refine⟨_,.struct (uf Tryz.underlying39).1 (by kernel_rfl) (fun w=>Tryz.isAgg39 w) (jO (by kernel_rfl) (by kernel_rfl)).1 (by kernel_rfl)
  (by rw [(uf Tryz.underlying39).2];exact .cons (by decide) rfl (zuC.up 1) (.cons (by decide) rfl h1 .nil)),fun r=>?_⟩
 exact⟨⟨_,rfl⟩,by have:=h2 r.to;have e:((zf r).drop 1).take 48=zaV r.to:=JH (by rw [show (zf r).drop 1=zaV r.to from rfl,zbj];decide);rw [e];exact this,trivial⟩
theorem zot {a b:RelD}:zf a=zf b↔jl a b=true:=by
 unfold jl;rw [bAT,dE,Qj];constructor
 ·intro h;have h1:i64 a.n=i64 b.n:=Jy h;have h2:zaV a.to=zaV b.to:=List.tail_eq_of_cons_eq h;refine⟨by injection h1,fun i hi=>Us ?_⟩;have hi:=Uo.1 hi;have h3:=zcP a.to hi;rw [h2,zcP b.to hi] at h3;have h4:=Uf h3;unfold s64 at h4;injection h4 with _ h5;omega
 ·rintro⟨h1,h2⟩;unfold zf zaV;rw [h1];congr 1;refine Kk fun i hi=>?_;rw [dT (h2 i hi)]
theorem znL (x y:Operand) (a b:RelD) (w:Wd):(do eqGuard .eql 39 x y (.agg (zf a).toArray) (.agg (zf b).toArray);binOp .eql 39 (.agg (zf a).toArray) (.agg (zf b).toArray)).run PG w = .ok (.bool (jl a b)) w:=by
 obtain⟨G,h1,h2⟩:=zuA;have:=zmz h1 9997 rfl (by kernel_rfl) (zg a) (zg b) (h2 a) (h2 b) x y w;rw [this,zfa zot,Bool.decide_eq_true]
theorem zu9:∃ G,TyEq PG 49 true 7 2 G/\∀ e:Ev,G (evE.enc e):=by
 refine⟨_,.struct (uf Tryz.underlying49).1 (by kernel_rfl) (fun w=>Tryz.isAgg49 w) (jO (by kernel_rfl) (by kernel_rfl)).1 (by kernel_rfl)
  (by rw [(uf Tryz.underlying49).2];exact .cons (by decide) rfl zuC (.cons (by decide) rfl tU8 (.cons (by decide) rfl tU8 (.cons (by decide) rfl tU8 (.cons (by decide) rfl tU8 (.cons (by decide) rfl tU8 (.cons (by decide) rfl tU8 .nil))))))),fun e=>?_⟩
 exact⟨⟨_,rfl⟩,⟨_,rfl⟩,⟨_,rfl⟩,⟨_,rfl⟩,⟨_,rfl⟩,⟨_,rfl⟩,⟨_,rfl⟩,trivial⟩
theorem zoQ {a b:Ev}:evE.enc a=evE.enc b↔a=b:=by
 constructor
 ·intro h;obtain⟨a1,a2,a3,a4,a5,a6,a7⟩:=a;obtain⟨b1,b2,b3,b4,b5,b6,b7⟩:=b;have h:[i64 a1,u8 a2,u8 a3,u8 a4,u8 a5,u8 a6,u8 a7]=[i64 b1,u8 b2,u8 b3,u8 b4,u8 b5,u8 b6,u8 b7]:=h;simp only [QL,Gk,u8,Value.int.injEq,true_and,qr] at h;obtain⟨h1,rfl,rfl,rfl,rfl,rfl,rfl⟩:=h;have h1:a1=b1:=by injection h1
  rw [h1]
 ·rintro rfl;rfl
theorem ztI (x y:Operand) (a b:Ev) (w:Wd):(do eqGuard .neq 49 x y (.agg (evE.enc a).toArray) (.agg (evE.enc b).toArray);binOp .neq 49 (.agg (evE.enc a).toArray) (.agg (evE.enc b).toArray)).run PG w = .ok (.bool (!decide (a=b))) w:=by
 obtain⟨G,h1,h2⟩:=zu9;have:=ztH h1 9998 rfl (by kernel_rfl) (a:=evE.enc a) (b:=evE.enc b) rfl rfl (h2 a) (h2 b) x y w;rw [this,zfa zoQ]
theorem zem:∀ (ev:List Ev) (k:Nat),(∀ j,j<k->(ev.getD j ev0).th = -1)->k<=ev.length->qi ev=k+qi (ev.drop k)
 | ev,0,_,_=>by rw [Um,US]
 | [],k+1,_,h=>by simp at h
 | e::ev,k+1,hj,h=>by
  have h0:e.th = -1:=hj 0 (by omega);have ih:=zem ev k (fun j hjk=>hj (j+1) (by omega)) (by simpa using h);unfold qi at ih ⊢;rw [Kn,Gr (Us h0),Qs,ih,List.drop_succ_cons];omega
section
variable {q:OA} {c:Nat} {ev:List Ev} {w:Wd}
theorem zmq (hl:SlR evE w q ev) (hn:ev.length<=1000):CB 41 #[.slice q ev.length c] w (i64 (qi ev:Nat)):=by
 refine zI 19 [.slice q ev.length c] Tryz.func41 ?_;refine⟨Nat,fun k=>⟨[(0,.slice q ev.length c),(5,.slice q ev.length c),(6,i64 ev.length),(7,i64 (k:Nat))],[]⟩,fun k X=>k<=ev.length/\(∀ j,j<k->(ev.getD j ev0).th = -1)/\Bw w X,fun k=>ev.length-k,0,(cvE rfl rfl),⟨Gb _,fun j h=>by omega,Gd _ _⟩,?_⟩;rintro k X ⟨hk,hj,hbX⟩;dsimp only;have hXs:=hbX.size;refine biE (fun hc=>?_) fun hc=>?_
 ·have hc:(k:Int)<(ev.length:Int):=dT hc;have hkl:k<ev.length:=by omega
  obtain⟨b,o,rfl,hb,hat⟩:=zcl (hl.below hbX) hkl;obtain⟨e,he⟩:=nm (ev.getD k ev0);rw [<- he] at hat;refine⟨k,rfl,hkl,evE.enc e,rfl,hat,hb,zo (X:=X) (v := .agg (evE.enc e).toArray) k49 rfl rfl (Qj.2 fun u hu=>evE.one e u hu) fun Y hbY fY sY=>?_⟩;have fY:Y.heap[X.heap.size]?=some (.cells (evE.enc e).toArray 49 (0,0)):=fY;refine⟨i64 e.th,zc (za fY) (i:=0) rfl,?_⟩;have hbY2:=hbX.trans (hbY.mono hXs);refine biE (fun h=>?_) fun h=>?_
  ·have h:(!decide (e.th = -1))=true:=h;have h:¬ e.th = -1:=by simpa using h
   refine⟨?_,hbY2⟩;have h2:=zem ev k hj hk;have h3:qi (ev.drop k)=0:=by
    unfold qi;have h4:ev[k]=e:=(by rw [he,gDe,gE hkl];rfl);rw [<- JF hkl,Kn,h4,Gq (by simpa using h)];rfl
   rw [h3] at h2;exact ri (by omega)
  ·have h:(!decide (e.th = -1))=false:=h;have h:e.th = -1:=by simpa using h
   refine nxI (by omega) ⟨k+1,(cvE rfl rfl),⟨hkl,fun j hjk=>?_,hbY2⟩,zdc (by omega)⟩;by_cases e2:j=k
   ·rw [e2,<- he];exact h
   ·exact hj j (by omega)
 ·have hc:¬ (k:Int)<(ev.length:Int):=dF hc;obtain rfl:k=ev.length:=by omega
  refine⟨?_,hbX⟩;have h2:=zem ev ev.length hj (UY _);rw [Qm] at h2;exact ri (by rw [h2];show ((ev.length:Nat):Int)=((ev.length+0:Nat):Int);rfl)
theorem zqT {i:Nat} {v:UInt8}:zd6 (zjq [(0,1,false),(1,1,false),(2,1,false),(3,1,false),(4,1,false),(5,1,false),(6,1,false)]) (evE.enc ev0) [(0,i64 (-1)),(1,u8 2),(2,u8 (UInt8.ofNat i)),(3,u8 v)]=some (evE.enc ⟨-1,2,UInt8.ofNat i,v,0,0,0⟩):=rfl
theorem zih {locs:Nat} (hl:SlR evE w q ev) (hn:ev.length<=1000) (hlo:locs<=1000):CB 42 #[.slice q ev.length c,i64 locs] w (.bool (jr ev locs)):=by
 refine zI 69 [.slice q ev.length c,i64 locs] Tryz.func42 ?_;refine⟨Nat×Int×Nat,fun s=>⟨[(1,i64 locs),(5,i64 s.2.1),(6,i64 (s.2.2:Nat)),(9,.slice q ev.length c),(10,i64 ev.length),(11,i64 (s.1:Nat))],[]⟩,fun s X=>s.1<=ev.length/\s.2.2<=s.1/\zbW locs s.1 (ev.drop s.1) s.2.1 s.2.2=jr ev locs/\Bw w X,fun s=>ev.length-s.1,(0,0,0),(cvE rfl rfl),⟨Gb _,UY _,rfl,Gd _ _⟩,?_⟩;rintro⟨k,t,m⟩ X ⟨hk,hm,hgo,hbX⟩;dsimp only at hk hm hgo ⊢;have hXs:=hbX.size;refine biE (fun hc=>?_) fun hc=>?_
 ·have hc:(k:Int)<(ev.length:Int):=dT hc;have hkl:k<ev.length:=by omega
  obtain⟨b,o,rfl,hb,hat⟩:=zcl (hl.below hbX) hkl;obtain⟨e,he⟩:=nm (ev.getD k ev0);rw [<- he] at hat;have hdr:ev.drop k=e::ev.drop (k+1):=by
   rw [<- JF hkl,he,gDe,gE hkl];rfl
  rw [hdr] at hgo;unfold zbW at hgo;refine⟨k,rfl,hkl,evE.enc e,rfl,hat,hb,zo (X:=X) (v := .agg (evE.enc e).toArray) k49 rfl rfl (Qj.2 fun u hu=>evE.one e u hu) fun Y hbY fY sY=>?_⟩;have fY:Y.heap[X.heap.size]?=some (.cells (evE.enc e).toArray 49 (0,0)):=fY;have hbY2:=hbX.trans (hbY.mono hXs);have ld:∀ {i:Nat} {v:Value},(evE.enc e)[i]?=some v->Y.cell? ⟨X.heap.size,0+i,none⟩=some v:=fun h=>zc (za fY) h;have no:jr ev locs=false->(Ending.returned (.bool false)=Ending.returned (.bool (jr ev locs))/\Bw w Y):=fun h=>⟨rb h.symm,hbY2⟩;refine biE (fun h=>?_) fun h=>?_
  ·have h:(k:Int)<(locs:Int):=dT h;rw [Gr (by omega:k<locs)] at hgo;refine⟨evE.enc e,rfl,za fY,hlt fY,_,w8N k,u8 e.v,ld (i:=3) rfl,evE.enc ⟨-1,2,UInt8.ofNat k,e.v,0,0,0⟩,zqT,_,fun w=>ztI _ _ e _ w,biE (fun h2=>?_) fun h2=>?_⟩
   ·have h2:¬ e=⟨-1,2,UInt8.ofNat k,e.v,0,0,0⟩:=(by simpa using h2);rw [Gq h2] at hgo;exact no hgo.symm
   ·have h2:e=⟨-1,2,UInt8.ofNat k,e.v,0,0,0⟩:=(by simpa using h2);rw [Gr h2] at hgo;exact nxI (by omega) ⟨(k+1,t,m),(cvE rfl rfl),⟨hkl,by show m<=k+1;omega,hgo,hbY2⟩,zdc (by omega)⟩
  ·have h:¬ (k:Int)<(locs:Int):=dF h;rw [Gq (by omega:¬ k<locs)] at hgo;refine⟨i64 e.th,ld (i:=0) rfl,biE (fun h1=>?_) fun h1=>?_⟩
   ·have h1:e.th<t:=dT h1;refine brT ?_;rw [Gr (.inl h1)] at hgo;exact no hgo.symm
   have h1:¬ e.th<t:=dF h1;refine⟨i64 e.th,ld (i:=0) rfl,biE (fun h2=>?_) fun h2=>?_⟩
   ·have h2:4<=e.th:=dT h2;rw [Gr (.inr h2)] at hgo;exact no hgo.symm
   have h2:¬ 4<=e.th:=dF h2;rw [Gq (by rintro (h | h);exact h1 h;exact h2 h)] at hgo;refine⟨i64 e.th,ld (i:=0) rfl,biE (fun h9=>?_) fun h9=>?_⟩
   ·have h9:t<e.th:=dT h9;dsimp only at hgo;rw [Gr h9,Gr h9] at hgo;refine⟨i64 e.th,ld (i:=0) rfl,u8 e.p,ld (i:=6) rfl,(e.p.toNat:Int),qW _,biE (fun h3=>?_) fun h3=>?_⟩
    ·have h3:¬ e.p.toNat=0:=by
      have h3:(!decide ((e.p.toNat:Int)=(0:Nat)))=true:=h3;simpa using h3
     rw [Gq h3] at hgo;exact no hgo.symm
    have h3:e.p.toNat=0:=by
     have h3:(!decide ((e.p.toNat:Int)=(0:Nat)))=false:=h3;simpa using h3
    rw [Gr h3] at hgo;refine⟨((0+1:Nat):Int),(ze (by omega)).trans (by omega),u8 e.k,ld (i:=1) rfl,biE (fun h4=>?_) fun h4=>?_⟩
    ·refine brE h4 ?_;have h4:e.k=1:=qr.1 (dT h4);rw [Gr (.inl h4)] at hgo;refine⟨u8 e.l,ld (i:=2) rfl,(e.l.toNat:Int),qW _,biE (fun h5=>?_) fun h5=>?_⟩
     ·have h5:(locs:Int)<=(e.l.toNat:Int):=dT h5;rw [Gq (by omega)] at hgo;exact no hgo.symm
     ·have h5:¬ (locs:Int)<=(e.l.toNat:Int):=dF h5;rw [Gr (by omega)] at hgo;exact nxI (by omega) ⟨(k+1,e.th,0+1),(cvE rfl rfl),⟨hkl,by show 0+1<=k+1;omega,hgo,hbY2⟩,zdc (by omega)⟩
    have h4:¬ e.k=1:=fun e2=>(dF h4) (by rw [e2];rfl);refine biE (fun h5=>?_) fun h5=>?_
    ·have h5:e.k=2:=qr.1 (dT h5);rw [Gr (.inr h5)] at hgo;refine⟨u8 e.l,ld (i:=2) rfl,(e.l.toNat:Int),qW _,biE (fun h5=>?_) fun h5=>?_⟩
     ·have h5:(locs:Int)<=(e.l.toNat:Int):=dT h5;rw [Gq (by omega)] at hgo;exact no hgo.symm
     ·have h5:¬ (locs:Int)<=(e.l.toNat:Int):=dF h5;rw [Gr (by omega)] at hgo;exact nxI (by omega) ⟨(k+1,e.th,0+1),(cvE rfl rfl),⟨hkl,by show 0+1<=k+1;omega,hgo,hbY2⟩,zdc (by omega)⟩
    have h5:¬ e.k=2:=fun e2=>(dF h5) (by rw [e2];rfl);rw [Gq (by rintro (h | h);exact h4 h;exact h5 h)] at hgo;refine biE (fun h6=>?_) fun h6=>?_
    ·have h6:e.k=3:=qr.1 (dT h6);rw [Gr h6] at hgo;refine⟨u8 e.l,ld (i:=2) rfl,biE (fun h7=>?_) fun h7=>?_⟩
     ·have h7:¬ e.l=0:=by
       have h7:(!decide ((e.l.toNat:Int)=0))=true:=h7;intro e2;rw [e2] at h7
       cases h7
      refine brT ?_;rw [Gq fun h=>h7 h.1] at hgo;exact no hgo.symm
     ·have h7:e.l=0:=by
       have h7:(!decide ((e.l.toNat:Int)=((0:UInt8).toNat:Int)))=false:=h7;exact qr.1 (by simpa using h7)
      refine⟨u8 e.v,ld (i:=3) rfl,biE (fun h8=>?_) fun h8=>?_⟩
      ·have h8:¬ e.v=0:=by
        have h8:(!decide ((e.v.toNat:Int)=0))=true:=h8;intro e2;rw [e2] at h8
        cases h8
       rw [Gq fun h=>h8 h.2] at hgo;exact no hgo.symm
      ·have h8:e.v=0:=by
        have h8:(!decide ((e.v.toNat:Int)=((0:UInt8).toNat:Int)))=false:=h8;exact qr.1 (by simpa using h8)
       rw [Gr ⟨h7,h8⟩] at hgo;exact nxI (by omega) ⟨(k+1,e.th,0+1),(cvE rfl rfl),⟨hkl,by show 0+1<=k+1;omega,hgo,hbY2⟩,zdc (by omega)⟩
    ·have h6:¬ e.k=3:=fun e2=>(dF h6) (by rw [e2];rfl);rw [Gq h6] at hgo;exact no hgo.symm
   ·have h9:¬ t<e.th:=dF h9;dsimp only at hgo;rw [Gq h9,Gq h9] at hgo;refine⟨u8 e.p,ld (i:=6) rfl,(e.p.toNat:Int),qW _,biE (fun h3=>?_) fun h3=>?_⟩
    ·have h3:¬ e.p.toNat=m:=by
      have h3:(!decide ((e.p.toNat:Int)=(m:Nat)))=true:=h3;intro e2;rw [e2] at h3;simp at h3
     rw [Gq h3] at hgo;exact no hgo.symm
    have h3:e.p.toNat=m:=by
     have h3:(!decide ((e.p.toNat:Int)=(m:Nat)))=false:=h3;have h3:(e.p.toNat:Int)=(m:Nat):=(by simpa using h3);omega
    rw [Gr h3] at hgo;refine nxI (by omega) ⟨u8 e.k,ld (i:=1) rfl,biE (fun h4=>?_) fun h4=>?_⟩
    ·refine brE h4 ?_;have h4:e.k=1:=qr.1 (dT h4);rw [Gr (.inl h4)] at hgo;refine⟨u8 e.l,ld (i:=2) rfl,(e.l.toNat:Int),qW _,biE (fun h5=>?_) fun h5=>?_⟩
     ·have h5:(locs:Int)<=(e.l.toNat:Int):=dT h5;rw [Gq (by omega)] at hgo;exact no hgo.symm
     ·have h5:¬ (locs:Int)<=(e.l.toNat:Int):=dF h5;rw [Gr (by omega)] at hgo;exact nxI (by omega) ⟨(k+1,t,m+1),(cvE rfl rfl),⟨hkl,by show m+1<=k+1;omega,hgo,hbY2⟩,zdc (by omega)⟩
    have h4:¬ e.k=1:=fun e2=>(dF h4) (by rw [e2];rfl);refine biE (fun h5=>?_) fun h5=>?_
    ·have h5:e.k=2:=qr.1 (dT h5);rw [Gr (.inr h5)] at hgo;refine⟨u8 e.l,ld (i:=2) rfl,(e.l.toNat:Int),qW _,biE (fun h5=>?_) fun h5=>?_⟩
     ·have h5:(locs:Int)<=(e.l.toNat:Int):=dT h5;rw [Gq (by omega)] at hgo;exact no hgo.symm
     ·have h5:¬ (locs:Int)<=(e.l.toNat:Int):=dF h5;rw [Gr (by omega)] at hgo;exact nxI (by omega) ⟨(k+1,t,m+1),(cvE rfl rfl),⟨hkl,by show m+1<=k+1;omega,hgo,hbY2⟩,zdc (by omega)⟩
    have h5:¬ e.k=2:=fun e2=>(dF h5) (by rw [e2];rfl);rw [Gq (by rintro (h | h);exact h4 h;exact h5 h)] at hgo;refine biE (fun h6=>?_) fun h6=>?_
    ·have h6:e.k=3:=qr.1 (dT h6);rw [Gr h6] at hgo;refine⟨u8 e.l,ld (i:=2) rfl,biE (fun h7=>?_) fun h7=>?_⟩
     ·have h7:¬ e.l=0:=by
       have h7:(!decide ((e.l.toNat:Int)=0))=true:=h7;intro e2;rw [e2] at h7
       cases h7
      refine brT ?_;rw [Gq fun h=>h7 h.1] at hgo;exact no hgo.symm
     ·have h7:e.l=0:=by
       have h7:(!decide ((e.l.toNat:Int)=((0:UInt8).toNat:Int)))=false:=h7;exact qr.1 (by simpa using h7)
      refine⟨u8 e.v,ld (i:=3) rfl,biE (fun h8=>?_) fun h8=>?_⟩
      ·have h8:¬ e.v=0:=by
        have h8:(!decide ((e.v.toNat:Int)=0))=true:=h8;intro e2;rw [e2] at h8
        cases h8
       rw [Gq fun h=>h8 h.2] at hgo;exact no hgo.symm
      ·have h8:e.v=0:=by
        have h8:(!decide ((e.v.toNat:Int)=((0:UInt8).toNat:Int)))=false:=h8;exact qr.1 (by simpa using h8)
       rw [Gr ⟨h7,h8⟩] at hgo;exact nxI (by omega) ⟨(k+1,t,m+1),(cvE rfl rfl),⟨hkl,by show m+1<=k+1;omega,hgo,hbY2⟩,zdc (by omega)⟩
    ·have h6:¬ e.k=3:=fun e2=>(dF h6) (by rw [e2];rfl);rw [Gq h6] at hgo;exact no hgo.symm
 ·have hc:¬ (k:Int)<(ev.length:Int):=dF hc;obtain rfl:k=ev.length:=by omega
  rw [Qm] at hgo;exact⟨rb hgo,hbX⟩
end
end Go.Proofs.YtkpaomeeknegpaaGreatDoor
namespace Go.Sei
def isR (x : ExD) (i : Nat) : Bool := decide ((evA x i).k = 1)
def isW (x : ExD) (i : Nat) : Bool := decide ((evA x i).k = 2)
def zaE (x : ExD) (i : Nat) : Bool := isR x i || isW x i
def zh (r : RelD) (a b : Nat) : Bool := (r.to a).testBit b
def zfp (n : Nat) (p : Nat → Bool) : Nat := (List.range n).foldl (fun s b => if p b = true then s ||| 2 ^ b else s) 0
def zbN (n : Nat) (p : Nat → Nat → Bool) : RelD := jT n fun a => zfp n (p a)
def qb (r : RelD) (l : List RelD) : RelD := l.foldl (fun r o => (ju r o).1) r
def frM (x : ExD) : RelD := (jk (zQ x.rf) x.co).1
def zbF (x : ExD) (a b : Nat) : Bool := zaE x a && (zaE x b && decide ((evA x a).l = (evA x b).l))
def zd0 (x : ExD) (r : RelD) : RelD := zbN r.n.toNat fun a b => zh r a b && !decide ((evA x a).th = (evA x b).th)
def zbh (x : ExD) (md : UInt8) : Nat := ((List.range x.ev.length).filter fun i => decide ((evA x i).k = 3) && decide ((evA x i).m = md)).foldl (fun s i => s ||| 2 ^ i) 0
def zU (x : ExD) (md : UInt8) : RelD := (jk (jk x.po (idR x.ev.length (zbh x md))).1 x.po).1
def zZ (x : ExD) (a : Nat) (md : UInt8) : Bool := decide ((evA x a).m = md) || decide ((evA x a).m = 3)
def zaw (x : ExD) (f : RelD) (a b : Nat) : Bool := zh f a b || (zZ x a 3 || zZ x b 3)
def zeV (m : Nat) (x : ExD) (f l s : RelD) (a b : Nat) : Bool :=
  match m with
  | 1 => false
  | 2 => true
  | 3 => isR x a || (isW x b || zaw x f a b)
  | 4 => isR x a || (zaw x f a b || (isW x b && (zbF x a b || zh s a b)))
  | 5 => (isR x a && (zZ x a 1 || zh l a b)) || ((isW x b && (zZ x b 2 || zh s a b)) || zh f a b)
  | 6 => zh x.dt a b || ((zh x.ct a b && isW x b) || (zh x.rm a b || (zh f a b || ((zh l a b && (isR x a && isR x b)) || (zh s a b && (isW x a && isW x b))))))
  | _ => false
def zaA (m : Nat) (x : ExD) : RelD := zbN x.ev.length fun a b => zh x.po a b && (zaE x a && (zaE x b && zeV m x (zU x 3) (zU x 4) (zU x 5) a b))
def zbs (x : ExD) : RelD := zbN x.ev.length fun a b => zh x.po a b && zbF x a b
def qK (m : Nat) (x : ExD) : Nat :=
  if zae (qb (zbs x) [x.rf, x.co, frM x]) = true then
    (if zbX (za6 x.rm (jk (frM x) x.co).1).1 = true then
      (if m = 1 then 0 else if zae (qb (zaA m x) [if m = 2 then x.rf else zd0 x x.rf, x.co, frM x]) = true then 0 else 3)
     else 2)
  else 1
def zai (m : Nat) : Bool := decide (1 ≤ m) && decide (m ≤ 6)
def zbS (m : Nat) (x : ExD) : Bool := zai m && (qN x && decide (qK m x = 0))
def zfb (m : Nat) (x : ExD) : Nat := if zai m = true ∧ qN x = true then qK m x else 0
theorem zo8 {p:Nat->Bool} {n k:Nat} (hk:k<n) (h:p k=false):(List.range n).all p=false:=by
 rw [KM];exact⟨k,Uo.2 hk,by rw [h];decide⟩
theorem zq5 {p:Nat->Bool} {k:Nat} (h:(List.range k).all p=true) (hp:p k=true):(List.range (k+1)).all p=true:=by
 rw [QW,QJ,h];simp [hp]
theorem j4 {a j:Nat}:(2^a).testBit j=decide (j=a):=by
 rw [Ko];exact QG.2 ⟨fun e=>e.symm,fun e=>e.symm⟩
theorem znd {a:Nat}:∀ (l:List Nat) (f:Nat->Nat) (b j:Nat),((l.foldl (fun f b=>upd f b (f b|||2^a)) f) b).testBit j=((f b).testBit j||(decide (b∈l)&&decide (j=a)))
 | [],f,b,j=>by simp
 | x::l,f,b,j=>by
  rw [QM,znd l];by_cases hx:b=x
  ·subst hx;rw [zP,Ur,j4];by_cases hl:b∈l <;> by_cases hj:j=a <;> simp [hl,hj]
  ·rw [qk _ _ hx];simp [hx]
theorem zfS (tf:Nat->Nat):∀ (n b j:Nat),(zaD tf n b).testBit j=(decide (j<n)&&decide (b∈els (tf j)))
 | 0,b,j=>by
  show (0:Nat).testBit j=_;simp
 | n+1,b,j=>by
  have ih:=zfS tf n b j;unfold zaD at ih ⊢;rw [QW,KT,QM,List.foldl_nil,znd,ih];by_cases hj:j=n
  ·subst hj;simp
  ·by_cases h2:j<n
   ·rw [Us h2,Us (by omega:j<n+1),Uh hj];simp
   ·rw [Uh h2,Uh (by omega:¬ j<n+1),Uh hj];simp
theorem zlE {r:RelD} (h:okR r=true) {b j:Nat}:((zQ r).to b).testBit j=(decide ((j:Int)<r.n)&&decide (b∈els (r.to j))):=by
 have hn:0<=r.n:=by
  unfold okR at h;rw [bAT,dE] at h;exact h.1
 have e:zQ r=⟨r.n,zaD r.to r.n.toNat⟩:=Gr h;rw [e];show (zaD r.to r.n.toNat b).testBit j=_;rw [zfS];congr 1;exact QG.2 (by omega)
theorem zgC {s:Nat} (h0:s≠0) (h:s<2^64):ctz s∈els s:=by
 rw [(jQ h0 h).1];exact Kz
end Go.Sei
namespace Go.Proofs.YtkpaomeeknegpaaGreatDoor
open Go.Vc Go.RowKit Go.Sei
section
variable {b c:Nat} {x:ExD} {q:OA} {w:Wd}
theorem zep {k:Nat}:x.ev.getD k ev0=evA x k:=rfl
theorem zos (fx:ExH w b x q c) (hv:ExW w x q) (hn:x.rf.n=x.ev.length) (hok:okR x.rf=true) (hT:Tz64M w):CB 44 #[At0 b] w (.bool (zal x)):=by
 refine qj 72 [At0 b] (.s .p (.c .p .p)) Tryz.func44 ?_;obtain⟨from_,hfr⟩:∃ f,f=zQ x.rf:=⟨_,rfl⟩;have hn20:=hv.n;refine⟨Nat,fun F=>⟨[(0,At0 b),(3,At0 F)],[]⟩,fun F X=>zS X F from_/\zH from_.to/\w.heap.size<=F/\Bw w X,?_,?_⟩
 ·refine⟨zf x.rf,zg _,?_,hlt fx,?_⟩
  ·have h:=zT (n:=50) (m:=49) (za fx);obtain⟨A,T,hA,hE⟩:=zqu x q c;have e:=hE x.rf;have e2:(exC x q c).drop 50=zf x.rf++T:=by
    show (exC { x with rf:=x.rf } q c).drop 50=_;rw [e,<- hA,Ul]
   have e3:((exC x q c).toArray.toList.drop 50).take 49=zf x.rf:=by
    show ((exC x q c).drop 50).take 49=_;rw [e2,Jg (by rw [zg];decide),JH (by rw [zg];decide)]
   rw [e3] at h;exact h
  refine cmo (zh7 hv.rf hT) ?_;rintro e Y ⟨rfl,hbY,hwr⟩;refine zo (X:=Y) (v := .agg (zf (zQ x.rf)).toArray) k39 (zg _) (by kernel_rfl) (zC _) fun Z hbZ fZ sZ=>?_;rw [<- hfr] at fZ hwr;exact⟨Y.heap.size,(cvE rfl rfl),fZ,hwr,hbY.size,(zst hbY hbZ)⟩
 rintro F X ⟨fF,hwr,hF,hbX⟩;have bits:∀ i j,(from_.to i).testBit j=true->j<x.ev.length:=fun i j h=>by
  rw [hfr,zlE hok,bAT,dE,hn] at h;omega
 refine⟨_,zc (za (zb hbX fx)) (i:=0) rfl,Nat,fun k=>⟨[(0,At0 b),(3,At0 F),(18,.slice q x.ev.length c),(19,i64 x.ev.length),(20,i64 (k:Nat))],[]⟩,fun k X=>k<=x.ev.length/\(List.range k).all (fun i=>zbL x (from_.to i) (evA x i))=true/\zS X F from_/\Bw w X,fun k=>x.ev.length-k,0,(cvE rfl rfl),⟨Gb _,rfl,fF,hbX⟩,?_⟩;have hall:zal x=(List.range x.ev.length).all fun i=>zbL x (from_.to i) (evA x i):=by rw [hfr];rfl
 clear fF hbX;rintro k X ⟨hk,hgo,fF,hbX⟩;dsimp only;have hXs:=hbX.size;refine biE (fun hc=>?_) fun hc=>?_
 ·have hc:(k:Int)<(x.ev.length:Int):=dT hc;have hkl:k<x.ev.length:=by omega
  obtain⟨bq,oq,hqe,hb,hat⟩:=zcl (hv.ev.below hbX) hkl;rw [zep] at hat;obtain⟨e,he⟩:=nm (evA x k);obtain⟨s,hs⟩:=nm (from_.to k);rw [<- he] at hat;have hs64:s<2^64:=by rw [hs];exact hwr k (by omega)
  have eq0:some (Value.slice q x.ev.length c)=some (Value.slice (some ⟨bq,oq,none⟩) x.ev.length c):=by rw [hqe]
  subst hqe;refine⟨k,rfl,hkl,evE.enc e,rfl,hat,hb,zo (X:=X) (v := .agg (evE.enc e).toArray) k49 rfl rfl (Qj.2 fun u hu=>evE.one e u hu) fun Y hbY fY sY=>?_⟩;have fY:Y.heap[X.heap.size]?=some (.cells (evE.enc e).toArray 49 (0,0)):=fY;have hbY2:=hbX.trans (hbY.mono hXs);have no:∀ {Z:Wd},Bw w Z->zbL x s e=false->(Ending.returned (.bool false)=Ending.returned (.bool (zal x))/\Bw w Z):=fun {Z} hb h=>⟨rb (by
   rw [hall];symm;exact zo8 hkl (by rw [<- hs,<- he];exact h)),hb⟩
  have yes:∀ {Z:Wd},zS Z F from_->Bw w Z->zbL x s e=true->(k+1<=x.ev.length/\(List.range (k+1)).all (fun i=>zbL x (from_.to i) (evA x i))=true/\zS Z F from_/\Bw w Z):=fun {Z} f hb h=>⟨hkl,zq5 hgo (by rw [<- hs,<- he];exact h),f,hb⟩;refine⟨k,rfl,by omega,?_⟩;refine⟨s64 s,by rw [hs];exact zaG (zb hbY fF) (by omega),u8 e.k,zc (za fY) (i:=1) rfl,biE (fun h=>?_) fun h=>?_⟩
  ·have h:¬ e.k=1:=by
    have h:(!decide ((e.k.toNat:Int)=((1:UInt8).toNat:Int)))=true:=h;intro e2;rw [e2] at h;simp at h
   have hone:zbL x s e=decide (s=0):=Gq h;refine biE (fun h2=>?_) fun h2=>?_
   ·have h2:¬ s=0:=by
     have h2:(!decide ((s:Int)=0))=true:=h2;intro e2;rw [e2] at h2
     cases h2
    exact no hbY2 (by rw [hone];exact Uh h2)
   ·have h2:s=0:=by
     have h2:(!decide ((s:Int)=0))=false:=h2;have h2:(s:Int)=0:=(by simpa using h2);omega
    exact nxI (by omega) ⟨k+1,(cvE rfl rfl),yes (zb hbY fF) hbY2 (by rw [hone];exact Us h2),zdc (by omega)⟩
  have h:e.k=1:=by
   have h:(!decide ((e.k.toNat:Int)=((1:UInt8).toNat:Int)))=false:=h;exact qr.1 (by simpa using h)
  refine cmo (za2 hs64 (hT.below hbY2)) ?_;rintro e2 Z ⟨rfl,hbZ⟩;have hYs:=hbY2.size;have hbZ2:=hbY2.trans (hbZ.mono hYs);have fZ:=zb hbZ fY;have fFZ:=zb hbZ (zb hbY fF);by_cases hs0:s=0
  ·have e1:(els s).isEmpty=true:=by rw [hs0];rfl
   rw [e1];refine brT (brT (no hbZ2 ?_));unfold zbL;rw [Gr h,Gr hs0]
  obtain⟨hd,hem⟩:=zbT hs0 hs64;rw [hd,hem];have hmem:=zgC hs0 hs64;have hbit:s.testBit (ctz s)=true:=(qJ.1 hmem).2;have hwl:ctz s<x.ev.length:=bits k _ (by rw [<- hs];exact hbit);refine brF ⟨by omega,((2^ctz s:Nat):Int),jZ (e:=ctz s) (by omega),biE (fun h2=>?_) fun h2=>?_⟩
  ·have h2:¬ s=2^ctz s:=by
    have h2:(!decide ((s:Int)=((2^ctz s:Nat):Int)))=true:=h2;intro e2;rw [<- e2] at h2;simp at h2
   refine no hbZ2 ?_;unfold zbL;rw [Gr h,Gq hs0,Gq h2]
  have h2:s=2^ctz s:=by
   have h2:(!decide ((s:Int)=((2^ctz s:Nat):Int)))=false:=h2;have h2:(s:Int)=((2^ctz s:Nat):Int):=by simpa using h2
   exact Uz h2
  obtain⟨t,ht⟩:=nm (ctz s);rw [<- ht] at hwl h2 ⊢;obtain⟨bq2,oq2,hqe2,hb2,hat2⟩:=zcl (hv.ev.below hbZ2) hwl;rw [zep] at hat2;obtain⟨f,hf⟩:=nm (evA x t);rw [<- hf] at hat2;have hone:zbL x s e=(decide (f.k=2)&&(decide (f.l=e.l)&&decide (f.v=e.v))):=by
   unfold zbL;rw [Gr h,Gq hs0,<- ht,Gr h2,<- hf]
  refine⟨_,zc (za (zb hbZ2 fx)) (i:=0) rfl,t,rfl,hwl,?_⟩;refine⟨evE.enc f,rfl,by
   simp only [KZ,Uu,Gk] at hqe2;rw [hqe2.1,hqe2.2];exact hat2,by
   simp only [KZ,Uu,Gk] at hqe2;rw [hqe2.1];exact hb2,?_⟩
  refine zo (X:=Z) (v := .agg (evE.enc f).toArray) k49 rfl rfl (Qj.2 fun u hu=>evE.one f u hu) fun V hbV fV sV=>?_;have fV:V.heap[Z.heap.size]?=some (.cells (evE.enc f).toArray 49 (0,0)):=fV;have hbV2:=zst hbZ2 hbV;have fe:=zb hbV fZ;have fFV:=zb hbV fFZ;have n8:∀ {a d:UInt8},(!decide ((a.toNat:Int)=(d.toNat:Int)))=true->¬ a=d:=fun {a d} h e2=>by
   rw [e2] at h;simp at h
  have y8:∀ {a d:UInt8},(!decide ((a.toNat:Int)=(d.toNat:Int)))=false->a=d:=fun {a d} h=>qr.1 (by simpa using h);refine⟨u8 f.k,zc (za fV) (i:=1) rfl,biE (fun h3=>?_) fun h3=>?_⟩
  ·have h3:¬ f.k=2:=n8 (d:=2) h3;exact brT (brT (no hbV2 (by rw [hone,Uh h3];rfl)))
  have h3:f.k=2:=y8 (d:=2) h3;refine⟨u8 f.l,zc (za fV) (i:=2) rfl,u8 e.l,zc (za fe) (i:=2) rfl,biE (fun h4=>?_) fun h4=>?_⟩
  ·have h4:¬ f.l=e.l:=n8 h4;exact brT (no hbV2 (by rw [hone,Uh h4,Uj,Ui]))
  have h4:f.l=e.l:=y8 h4;refine⟨u8 f.v,zc (za fV) (i:=3) rfl,u8 e.v,zc (za fe) (i:=3) rfl,biE (fun h5=>?_) fun h5=>?_⟩
  ·have h5:¬ f.v=e.v:=n8 h5;exact no hbV2 (by rw [hone,Uh h5,Ui,Ui])
  have h5:f.v=e.v:=y8 h5;exact nxI (by omega) ⟨k+1,(cvE rfl rfl),yes fFV hbV2 (by rw [hone,Us h3,Us h4,Us h5];rfl),zdc (by omega)⟩
 ·have hc:¬ (k:Int)<(x.ev.length:Int):=dF hc;obtain rfl:k=x.ev.length:=by omega
  exact⟨rb (by rw [hall];exact hgo.symm),hbX⟩
end
theorem zul {bx n:Nat} {w:Wd} {i:Nat} (f:w.heap[bx]?=some (.cells #[i64 (n:Nat)] 3 (0,0))) (hn:n<=1000):Calls PG 117 #[i64 (i:Nat),At0 bx] w fun e w'=>e = .returned (.bool true)/\w'.heap[bx]?=some (.cells #[i64 (n+1:Nat)] 3 (0,0))/\w.grownBy w' (some bx):=by
 refine zI 6 [i64 (i:Nat),At0 bx] Tryz.func117 ?_;exact⟨_,zc (za f) (i:=0) rfl,nxI (by omega) (zn k3 f (o:=0) (v:=i64 (n+1:Nat)) rfl rfl (by show 0<1;decide) rfl fun w' f' g' s'=>⟨rfl,f',g'⟩)⟩
theorem zlk {bs bx s:Nat} {w:Wd} (fs:w.heap[bs]?=some (.cells #[s64 s] 36 (0,0))) (fx:w.heap[bx]?=some (.cells #[i64 (0:Nat)] 3 (0,0))) (hs:s<2^64) (hT:Tz64M w) (hbx:1≠bx) :
  Calls PG 157 #[.func (.func 117) #[] #[At0 bx],At0 bs] w fun e w'=>(∃ v,e = .returned v)/\w'.heap[bx]?=some (.cells #[i64 (zbP s:Nat)] 3 (0,0))/\w.grownBy w' (some bx):=by
 refine zI 16 [.func (.func 117) #[] #[At0 bx],At0 bs] Tryz.func157 ?_;refine⟨_,zc (za fs) (i:=0) rfl,Nat×Nat,fun q=>⟨[(0,.func (.func 117) #[] #[At0 bx]),(3,s64 q.2)],[]⟩,fun q X=>X.heap[bx]?=some (.cells #[i64 (q.1:Nat)] 3 (0,0))/\q.1+zbP q.2=zbP s/\q.2<2^64/\w.grownBy X (some bx),fun q=>q.2,(0,s),(cvE rfl rfl),⟨fx,US _,hs,qc _ _⟩,?_⟩;rintro⟨n,r⟩ X ⟨f,hn,hr,gX⟩;dsimp only at f hn hr ⊢;have hls:=ze3 s;refine biE (fun hc=>?_) fun hc=>?_
 ·have hc:(!decide ((r:Int)=0))=true:=hc;have hc:¬ (r:Int)=0:=by simpa using hc
  have hr0:r≠0:=by omega
  obtain⟨e1,e2,_,_⟩:=jQ hr0 hr;have hl:zbP r=zbP (qp r)+1:=by unfold zbP;rw [e1];rfl
  have hTX:Tz64M X:=zak hT (gX.block _ (zaT hT) (by simpa using hbx));refine cmo (zpn hTX hr0 hr) ?_;rintro e _ ⟨rfl,rfl⟩;have hn64:n<=1000:=by unfold zbP at hn;omega
  refine cmo (zul f hn64) ?_;rintro e V ⟨rfl,fV,gV⟩;exact brF ⟨((r-1:Nat):Int),(zaR (a:=(r:Int)-1) (by omega)).trans (by omega),((qp r:Nat):Int),jI (a:=r) (b:=r-1) hr (by omega),(n+1,qp r),(cvE rfl rfl),⟨fV,by show n+1+zbP (qp r)=_;omega,by show qp r<_;omega,zd gX gV⟩,e2⟩
 ·have hc:(!decide ((r:Int)=0))=false:=hc;have hc:(r:Int)=0:=by simpa using hc
  obtain rfl:r=0:=by omega
  have h0:zbP 0=0:=rfl;rw [h0,UN] at hn;exact⟨⟨_,rfl⟩,by rw [<- hn];exact f,gX⟩
theorem zte {s:Nat} {w:Wd} (hs:s<2^64) (hT:Tz64M w):CB 86 #[s64 s] w (i64 (zbP s:Nat)):=by
 refine qj 11 [s64 s] (.s .p (.c .p .p)) Tryz.func86 ?_;obtain⟨L,hL⟩:=nm (w.heap.size);refine⟨Unit,fun _=>⟨[(0,s64 s),(3,At0 L)],[]⟩,fun _ Y=>Y.heap[L]?=some (.cells #[i64 (0:Nat)] 3 (0,0))/\Y.heap.size=L+1/\Bw w Y,?_,?_⟩
 ·refine zo (X:=w) (v:=i64 0) k3 rfl rfl rfl fun Y hbY fY sY=>?_;have fY:Y.heap[w.heap.size]?=some (.cells #[i64 (0:Nat)] 3 (0,0)):=fY;exact⟨(),⟨.cons rfl (.cons (by rw [hL];rfl) .nil),rfl⟩,by rw [hL];exact fY,by rw [hL];exact sY,hbY⟩
 rintro _ Y ⟨fY,sY,hbY⟩;refine cmo zhQ ?_;rintro e _ ⟨rfl,rfl⟩;have hb2:Bw Y (Y.alloc (.cells #[s64 s] 36)):=zba _ _;have htl:=zaT hT;refine cmo (zlk (zu Y _) (zb hb2 fY) hs ((hT.below hbY).below hb2) (by omega)) ?_;rintro e Z ⟨⟨v,rfl⟩,fZ,gZ⟩;exact⟨_,zc (za fZ) (i:=0) rfl,rfl,((zst hbY hb2)).trans (zk gZ (by have:=hbY.size;have:=hb2.size;omega) (by omega))⟩
def zjR (x y:Nat):Int:=if x<y then -1 else if y<x then 1 else 0
theorem zp1 {x:Nat} {w:Wd}:Calls PG 116 #[i64 (x:Nat)] w fun e w'=>e = .returned (.bool false)/\w=w':=by
 refine zI 6 [i64 (x:Nat)] Tryz.func116 ?_;exact⟨rb (by simp),rfl⟩
theorem zmR {x y:Nat} {w:Wd}:Calls PG 85 #[i64 (x:Nat),i64 (y:Nat)] w fun e w'=>e = .returned (i64 (zjR x y))/\w=w':=by
 refine zI 20 [i64 (x:Nat),i64 (y:Nat)] Tryz.func85 ?_;refine cmo zp1 ?_;rintro e _ ⟨rfl,rfl⟩;refine cmo zp1 ?_;rintro e _ ⟨rfl,rfl⟩;refine brF (brF (biE (fun h=>?_) fun h=>?_))
 ·have h:(x:Int)<y:=dT h;exact⟨ri (by unfold zjR;rw [Gr (by omega)]),rfl⟩
 have h:¬ (x:Int)<y:=dF h;refine biE (fun h2=>?_) fun h2=>?_
 ·have h2:(y:Int)<x:=dT h2;exact⟨ri (by unfold zjR;rw [Gq (by omega),Gr (by omega)]),rfl⟩
 ·have h2:¬ (y:Int)<x:=dF h2;exact⟨ri (by unfold zjR;rw [Gq (by omega),Gq (by omega)]),rfl⟩
section
variable {b c L:Nat} {x:ExD} {q:OA} {w:Wd}
theorem zqK {X:Wd} (fx:ExH X b x q c) {i:Nat} (hi:i<48):X.cell? ⟨b,0+99+1+i*1,none⟩=some (s64 (x.co.to i)):=by
 obtain⟨A,T,hA,hE⟩:=zmy x q c;have hR:RelAt X b 99 46 A T x.co:=⟨hA,by rw [<- hE];exact fx⟩;exact hR.cell hi
theorem zuc {u v:Nat} (fx:ExH w b x q c) (fL:w.heap[L]?=some (.cells #[At0 b] 81 (0,0))) (hco:zH x.co.to) (hu:u<48) (hv:v<48) (hT:Tz64M w) :
  CB 84 #[i64 (u:Nat),i64 (v:Nat),At0 L] w (i64 (zjR (zbP (x.co.to v)) (zbP (x.co.to u)))):=by
 refine zI 23 [i64 (u:Nat),i64 (v:Nat),At0 L] Tryz.func84 ?_;refine DrawE.ord [] [0,1,2,3,4,5,6,8,9,10,11,12,13,14,7,15,16,17] (by kernel_rfl) ?_;have hd:Bw w w.drew:=(Gd _ _).drew;refine⟨_,zc (za (hdr fL)) (i:=0) rfl,v,rfl,hv,_,zqK (hdr fx) hv,_,zc (za (hdr fL)) (i:=0) rfl,u,rfl,hu,_,zqK (hdr fx) hu,cmo (zte (hco v hv) (hT.below hd)) ?_⟩;rintro e X ⟨rfl,hbX⟩;refine⟨hbX,cmo (zte (hco u hu) ((hT.below hd).below hbX)) ?_⟩;rintro e Y ⟨rfl,hbY⟩;refine⟨hbY,cmo zmR ?_⟩;rintro e _ ⟨rfl,rfl⟩;exact⟨Gd _ _,rfl,(hd.trans hbX).trans (hbY.mono hbX.size)⟩
end
end Go.Proofs.YtkpaomeeknegpaaGreatDoor
