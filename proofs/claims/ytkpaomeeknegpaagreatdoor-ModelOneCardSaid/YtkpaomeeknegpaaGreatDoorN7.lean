/- Contracts of functions, and plain facts, for the law that the last text of this claim proves. -/
import Derived.Test.YtkpaomeeknegpaaGreatDoorN5
import Derived.Test.YtkpaomeeknegpaaGreatDoorN6
import Derived.Test.YtkpaomeeknegpaaGreatDoorN2
import Derived.Test.YtkpaomeeknegpaaGreatDoorN3
import Derived.Test.YtkpaomeeknegpaaGreatDoorN4
set_option linter.unusedSimpArgs false
set_option linter.unusedVariables false
namespace Go.Proofs.YtkpaomeeknegpaaGreatDoor
open Go.Vc Go.RowKit Go.Sei
def zpL (x:ExD) (s r:Nat):Prop:=s<r/\(evA x s).k=2/\(evA x s).l=(evA x r).l/\(evA x s).v=(evA x r).v/\∀ w,s<w->w<r->(evA x w).k=2->(evA x w).l≠(evA x r).l
section
variable {init:List UInt8} {Ps:List PathD} {m:MixD}
theorem zr4 {w:List Nat} (h:w.Pairwise (· < ·)) {i j:Nat} (hi:i∈w) (hj:j∈twl w.reverse i):i<j:=by
 have h2:w.reverse.Pairwise (fun a b=>b<a):=List.pairwise_reverse.2 h;exact zjM (R:=fun a b=>b<a) h2 (List.mem_reverse.2 hi) hj
theorem ChoiceW.pick (h:ChoiceW init Ps m) (hw8:∀ w∈m.wr,fct (w.length-1)<=10000) {S:Nat->Nat->Prop} {o:Nat->List Nat} (hsrc:∀ r,r<m.base.ev.length->(evA m.base r).k=1->∃ s,(s<m.base.ev.length/\(evA m.base s).k=2/\(evA m.base s).l=(evA m.base r).l/\(evA m.base s).v=(evA m.base r).v)/\S s r) (ho:∀ l,l<init.length->(o l).Perm (z6 m.base l)/\(o l).headD 48=(z6 m.base l).headD 48) :
  jr m 1≠0/\∃ ds∈qj (zK m),(∀ s r,zg (zA m ds).rf s r=true->S s r)/\∀ a b,zg (zA m ds).co a b=true->∃ l,l<init.length/\a∈o l/\b∈twl (o l).reverse a:=by
 have hin:∀ (t:Nat) (r:Nat×List Nat),m.rs[t]?=some r->∃ (d s:Nat),r.2[d]?=some s/\S s r.1:=fun t r hr=>by
  obtain⟨e,e1,e2,e3⟩:=h.rs (JZ hr);have hrl:=(Js.1 e1).1;have hev:evA m.base r.1=e:=by unfold evA;rw [gDe,e1];rfl
  obtain⟨s,hs⟩:=hsrc r.1 hrl (by rw [hev];exact e2);obtain⟨⟨s1,s2,s3,s4⟩,hs0⟩:=hs;have hloc:e.l.toNat<init.length:=by
   have:e∈(zaf init Ps).ev:=by rw [<- h.base];exact JZ e1
   exact zbE h.i6 h.P this (.inl e2)
  rw [h.wr.2 _ hloc] at e3;have:s∈r.2:=by
   rw [e3];rw [hev] at s3 s4;exact QU.2 ⟨zaC.2 ⟨s1,Ut s2,by rw [s3]⟩,Ut s4⟩
  obtain⟨d,hd⟩:=List.mem_iff_getElem?.1 this;exact⟨d,s,hd,hs0⟩
 have hwl:∀ (l:Nat) (w:List Nat),m.wr[l]?=some w->l<init.length/\w=z6 m.base l:=fun l w hw=>by
  have hl:=(Js.1 hw).1;rw [h.wr.1] at hl;have:=h.wr.2 l hl;rw [gDe,hw] at this;exact⟨hl,this⟩
 have hwr:∀ (l:Nat) (w:List Nat),m.wr[l]?=some w->∃ d,(zO w)[d]?=some (o l):=fun l w hw=>by
  have hwm:=JZ hw;obtain⟨w1,w2⟩:=h.w1 hwm;obtain⟨hl,rfl⟩:=hwl l w hw;obtain⟨o1,o2⟩:=ho l hl;exact List.mem_iff_getElem?.1 (zqo w2 (List.nodup_range.filter _) (hw8 _ hwm) w1 o1 o2)
 have hch:∀ i:Nat,∃ d:Nat,(∀ r,m.rs[i]?=some r->∃ s,r.2[d]?=some s/\S s r.1)/\∀ (l:Nat) (w:List Nat),i=m.rs.length+l->m.wr[l]?=some w->(zO w)[d]?=some (o l):=fun i=>by
  by_cases hi:i<m.rs.length
  ·obtain⟨d,s,h1,h2⟩:=hin i _ (gE hi);exact⟨d,fun r hr=>(by rw [gE hi] at hr;rw [<- Ug hr];exact⟨s,h1,h2⟩),fun l w e _=>(by omega)⟩
  ·cases hg:m.wr[i-m.rs.length]? with
   | none =>
    refine⟨0,fun r hr=>?_,fun l w e hw=>?_⟩
    ·rw [JK (by omega)] at hr
     cases hr
    ·rw [show i-m.rs.length=l by omega,hw] at hg
     cases hg
   | some w' =>
    obtain⟨d,hd⟩:=hwr _ _ hg;refine⟨d,fun r hr=>?_,fun l w e hw=>?_⟩
    ·rw [JK (by omega)] at hr
     cases hr
    ·have el:i-m.rs.length=l:=(by omega);rw [el] at hg hd;rw [hw] at hg;rw [Ug hg];exact hd
 obtain⟨f,hf⟩:=Classical.axiomOfChoice hch;have hsl:(zK m).length=m.rs.length+m.wr.length:=by
  unfold zK;rw [lap,QO,QO]
 obtain⟨ds,hds⟩:=nm ((List.range (zK m).length).map f);have hdl:ds.length=(zK m).length:=by rw [hds,QO,KW]
 have hda:∀ i,i<(zK m).length->ds[i]?=some (f i):=fun i hi=>by rw [hds,KV,Ki hi];rfl
 have hdm:ds∈qj (zK m):=zlX hdl fun i n d hn hd=>by
  have hi:i<(zK m).length:=(Js.1 hn).1;rw [hda i hi] at hd;rw [<- Ug hd];unfold zK at hn;by_cases hir:i<m.rs.length
  ·rw [Jr (by rw [QO];exact hir),KV,gE hir] at hn;obtain⟨s,h1,_⟩:=(hf i).1 _ (gE hir);have:=(Js.1 h1).1;have hn:m.rs[i].2.length=n:=Ug hn;omega
  ·have hiw:i-m.rs.length<m.wr.length:=by omega
   rw [Jn (by rw [QO];omega),QO,KV,gE hiw] at hn;have h1:=(hf i).2 (i-m.rs.length) _ (by omega) (gE hiw);have:=(Js.1 h1).1;have hn:(zO m.wr[i-m.rs.length]).length=n:=Ug hn;omega
 refine⟨?_,ds,hdm,fun s r hb=>?_,fun a b hb=>?_⟩
 ·refine (zco fun w hw=>(h.w1 hw).1).2 fun r hr e=>?_;obtain⟨t,ht⟩:=List.mem_iff_getElem?.1 hr;obtain⟨d,s,h1,_⟩:=hin t r ht;rw [e] at h1;simp at h1
 ·obtain⟨t,r',g1,g2,g3,g4⟩:=(h.rfb hdm).1 hb;have ht:=(Js.1 g1).1;rw [gDe,hda t (by omega)] at g3;have g3:r'.2[f t]?=some s:=g3;obtain⟨s',h1,h2⟩:=(hf t).1 r' g1;rw [h1] at g3;rw [<- Ug g3,g4];exact h2
 ·obtain⟨c1,c2⟩:=h.chx hdm;obtain⟨_,hbits⟩:=zdW m.base.ev (m.wr.map zO) 0 (ds.drop m.rs.length) (m.base.co,m.base.mem) c1 c2;have hb:zg (coG m.base.ev 0 (m.wr.map zO) (ds.drop m.rs.length) (m.base.co,m.base.mem)).1 a b=true:=hb;obtain⟨_,b2,_⟩:=zcY (init:=init) (Ps:=Ps);rcases (hbits a b).1 hb with ⟨l,l1,l2,l3⟩ | ⟨_,l2⟩
  ·rw [QO] at l1;have hwg:m.wr[l]?=some m.wr[l]:=gE l1;have e:chR (m.wr.map zO) (ds.drop m.rs.length) l=o l:=by
    unfold chR;have h1:=(hf (m.rs.length+l)).2 l _ rfl hwg;rw [gDe,gDe,KV,hwg,gDe,Kx,hda _ (by omega)];show ((zO m.wr[l])[f (m.rs.length+l)]?).getD []=_;rw [h1];rfl
   rw [e] at l2 l3;exact⟨l,(hwl l _ hwg).1,l2,l3⟩
  ·rw [h.base,b2] at l2;exact Gr l2 (zcC _ a b)
theorem ChoiceW.fwd (h:ChoiceW init Ps m) (hw8:∀ w∈m.wr,fct (w.length-1)<=10000) (hsrc:∀ r,r<m.base.ev.length->(evA m.base r).k=1->∃ s,zpL m.base s r) :
  jr m 1≠0/\∃ ds∈qj (zK m),(∀ s r,zg (zA m ds).rf s r=true->zpL m.base s r)/\∀ a b,zg (zA m ds).co a b=true->a<b:=by
 obtain⟨h1,ds,hd,h2,h3⟩:=h.pick hw8 (S:=zpL m.base) (o:=z6 m.base) (fun r hr hk=>by
  obtain⟨s,hs⟩:=hsrc r hr hk;have hs0:=hs;obtain⟨s1,s2,s3,s4,_⟩:=hs;exact⟨s,⟨by omega,s2,s3,s4⟩,hs0⟩) fun l _=>⟨List.Perm.refl _,rfl⟩
 refine⟨h1,ds,hd,h2,fun a b hb=>?_⟩;obtain⟨l,_,l2,l3⟩:=h3 a b hb;exact zr4 (List.Pairwise.filter _ List.pairwise_lt_range) l2 l3
end
section
variable {x:ExD}
theorem zlQ (h:XOk x) (π:Nat->Nat) (hf:∀ i j,i<x.ev.length->zg (ziO x) i j=true->π i<π j) (hrm:∀ a b,zg x.rm a b=true->π b=π a+1) (m:Nat):qG m x=0:=by
 have fwd:∀ {r:RelD},RelOk x.ev.length r->(∀ i j,i<x.ev.length->zg r i j=true->π i<π j)->zaZ r=true:=fun {r} hr hlt=>by
  rw [acy_tc hr];intro i ht;have:∀ {a b},TC (zgO x.ev.length r) a b->π a<π b:=fun {a b} ht=>by
   induction ht with
   | one k=>exact hlt _ _ k.1 k.2
   | step _ k ih=>exact Nat.lt_trans ih (hlt _ _ k.1 k.2)
  exact Gr (this ht) (Nat.lt_irrefl _)
 have po_lt:∀ i j,i<x.ev.length->zg x.po i j=true->π i<π j:=fun i j hi hb=>hf i j hi (by rw [zag h hi,hb];rfl);have rf_lt:∀ i j,i<x.ev.length->zg x.rf i j=true->π i<π j:=fun i j hi hb=>hf i j hi (by rw [zag h hi,hb,Bool.or_true];rfl);have hco:∀ i j,i<x.ev.length->zg x.co i j=true->π i<π j:=fun i j hi hb=>hf i j hi (by rw [zag h hi,hb,Bool.true_or,Bool.or_true]);have hfr:∀ i j,i<x.ev.length->zg (frM x) i j=true->π i<π j:=fun i j hi hb=>hf i j hi (by rw [zag h hi,hb,Bool.or_true,Bool.or_true]);have hall:∀ o∈[x.rf,x.co,frM x],RelOk x.ev.length o:=fun o ho=>by
  simp only [UE,Qx,Gm] at ho;rcases ho with rfl | rfl | rfl
  ·exact h.rf
  ·exact h.co
  ·exact zdP h
 have hlocal:RelOk x.ev.length (zaa x) := .pick h.n _;rw [zdp];refine⟨?_,?_,?_⟩
 ·refine fwd (zc5 hlocal hall) fun i j hi hb=>?_;rw [zc6 hi hlocal hall,QI] at hb;rcases hb with hb | hb
  ·unfold zaa at hb;rw [zdF] at hb;simp only [bAT,dE] at hb;exact po_lt i j hi hb.2.2.1
  ·simp only [UC,List.any_nil,Uy,QI] at hb;rcases hb with hb | hb | hb
   ·exact rf_lt i j hi hb
   ·exact hco i j hi hb
   ·exact hfr i j hi hb
 ·have hfc:=(zdP h).then h.co;refine (zpo (h.rm.both hfc)).2 fun i j hi hj=>?_;rw [zrz h.rm hfc hi]
  cases h1:zg x.rm i j
  ·rfl
  ·cases h2:zg (jj (frM x) x.co).1 i j
   ·rfl
   ·obtain⟨w,hw,g1,g2⟩:=(ze2 (zdP h) h.co hi).1 h2;have:=hrm i j h1;have:=hfr i w hi g1;have:=hco w j hw g2;omega
 ·by_cases h1:m=1
  ·exact .inl h1
  ·right;refine fwd (zc5 (zlI h) (zln h)) fun i j hi hb=>?_;have hbit:zg (zum m x) i j=(zg (za4 m x) i j||[if m=2 then x.rf else zdi x x.rf,x.co,frM x].any fun o=>zg o i j):=zc6 hi (zlI h) (zln h);rw [hbit,QI] at hb;rcases hb with hb | hb
   ·unfold za4 at hb;rw [zdF] at hb;simp only [bAT,dE] at hb;exact po_lt i j hi hb.2.2.1
   ·simp only [UC,List.any_nil,Uy,QI] at hb;rcases hb with hb | hb | hb
    ·split at hb
     ·exact rf_lt i j hi hb
     ·exact rf_lt i j hi (zsT hb)
    ·exact hco i j hi hb
    ·exact hfr i j hi hb
theorem zpj (h:XOk x) (hrf:∀ s r,zg x.rf s r=true->zpL x s r) (hco:∀ a b,zg x.co a b=true->a<b) (hrm:∀ a b,zg x.rm a b=true->b=a+1) (m:Nat):qG m x=0:=by
 refine zlQ h (fun i=>i) (fun i j hi hb=>?_) hrm m;rw [zag h hi,QI,QI,QI] at hb;rcases hb with (hb | hb) | hb | hb
 ·exact ((zmO h hi).1 hb).2.1
 ·exact (hrf i j hb).1
 ·exact hco i j hb
 ·obtain⟨s,hs,h1,h2⟩:=(ze2 h.rf.back h.co hi).1 hb;rw [za6 h.rf (by have:=h.n;omega),bAT] at h1;obtain⟨g1,g2,g3,g4,g5⟩:=hrf s i h1.2;obtain⟨w1,w2,w3,_⟩:=zdU h hs h2;have hsj:=hco s j h2;refine QB fun hle=>?_;have hwj:(evA x j).k=2:=dT w2;by_cases e:j=i
  ·subst e;obtain⟨gg,_⟩:=(zfW h.rf).1 h.rfR;obtain⟨_,rj,_⟩:=gg s j hs hi h1.2;have:(evA x j).k=1:=dT rj;rw [hwj] at this;exact Gr this (by decide)
  ·exact g5 j hsj (Nat.lt_of_le_of_ne hle e) hwj (w3.symm.trans g3)
end
def j9 (μ:Nat->UInt8) (es:List Ev):Nat->UInt8:=es.foldl (fun μ e=>if e.k=2 then upd μ e.l.toNat e.v else μ) μ
def zU (μ:Nat->UInt8) (es:List Ev):Prop:=∀ A e B,es=A++e::B->e.k=1->e.v=j9 μ A e.l.toNat
theorem zdI (μ:Nat->UInt8) (a b:List Ev):j9 μ (a++b)=j9 (j9 μ a) b:=KU
theorem zdT (μ:Nat->UInt8):zU μ []:=fun A e B h=>by cases A <;> cases h
theorem zai {μ:Nat->UInt8} {es:List Ev} {e:Ev} (h:zU μ es) (he:e.k=1->e.v=j9 μ es e.l.toNat):zU μ (es++[e]):=fun A d B hd hk=>by
 rcases List.eq_nil_or_concat B with rfl | ⟨B',b,rfl⟩
 ·obtain⟨h1,h2⟩:=List.append_inj' hd rfl;simp only [QM,Gj] at h2;subst h1 h2;exact he hk
 ·have hd:es++[e]=(A++d::B')++[b]:=by rw [hd];simp
  obtain⟨h1,_⟩:=List.append_inj' hd rfl;exact h A d B' h1 hk
theorem zl4 {μ:Nat->UInt8} {a:List Ev} (h:zU μ a):∀ {b:List Ev},zU (j9 μ a) b->zU μ (a++b):=fun {b} hb A d B hd hk=>by
 rcases List.append_eq_append_iff.1 hd with ⟨c,h1,h2⟩ | ⟨c,h1,h2⟩
 ·rw [h1,zdI];exact hb c d B h2 hk
 ·cases c with
  | nil =>
   rw [QL] at h1;rw [<- h1];exact hb [] d B (by rw [QV] at h2;exact h2.symm) hk
  | cons x c =>
   rw [Qn,QM] at h2;obtain⟨rfl,h2⟩:=h2;exact h A d c h1 hk
theorem zke {V:List UInt8} {es:List Ev} (he:∀ e∈es,e.k=2->e.v∈V):∀ {μ:Nat->UInt8},(∀ a,μ a∈V)->∀ a,j9 μ es a∈V:=by
 induction es with
 | nil=>exact fun h a=>h a
 | cons e es ih =>
  intro μ hμ a;show j9 (if e.k=2 then upd μ e.l.toNat e.v else μ) es a∈V;refine ih (fun d hd=>he d (JY _ hd)) (fun b=>?_) a
  split
  ·rename_i hk;by_cases hb:b=e.l.toNat
   ·rw [hb,zL];exact he e KA hk
   ·rw [qk _ _ hb];exact hμ b
  ·exact hμ b
section
variable {R:RunD} {x:InsD} {v:UInt8} {μ:Nat->UInt8}
theorem zbi (R:RunD) (x:InsD) (o v:UInt8) (d:Nat):zT (zad R x o v d)=(zT R++[⟨0,1,x.loc,o,3,UInt8.ofNat R.pc,UInt8.ofNat R.many⟩])++[⟨0,2,x.loc,v,3,UInt8.ofNat R.pc,UInt8.ofNat (R.many+1)⟩]:=by
 show zT (js (js R 1 x.loc o 3 0) 2 x.loc v 3 d)=_;rw [jX,jX];rfl
theorem zs5 (hx:ExG x):∃ more,zT (zdv R x v)=zT R++more/\(zU μ (zT R)->(qg x=true->v=j9 μ (zT R) x.loc.toNat)->zU μ (zT (zdv R x v))):=by
 rcases hx with ⟨e,-⟩ | ⟨e,-⟩ | ⟨e,-⟩ | ⟨e,-⟩ | ⟨e,-⟩ | ⟨e,-⟩ | e | ⟨e,-⟩
 ·rw [zS.1 e];refine⟨_,jX R 1 x.loc v x.mode 0,fun h hr=>?_⟩;show zU μ (zT (js R 1 x.loc v x.mode 0));rw [jX];exact zai h fun _=>hr (by unfold qg;rw [e];rfl)
 ·rw [zS.2.1 e];refine⟨_,jX R 2 x.loc _ x.mode _,fun h hr=>?_⟩;show zU μ (zT (js R 2 x.loc _ x.mode _));rw [jX];exact zai h fun hk=>Gr (show (2:UInt8)=1 from hk) (by decide)
 ·rw [zS.2.2.1 e];exact⟨[],(QL _).symm,fun h _=>h⟩
 ·rw [zS.2.2.2.1 e];refine⟨_,by show zT (zad R x v (qi x.ar x.an R).1 (qi x.ar x.an R).2)=_;rw [zbi,KQ],fun h hr=>?_⟩;show zU μ (zT (zad R x v (qi x.ar x.an R).1 (qi x.ar x.an R).2));rw [zbi];exact zai (zai h fun _=>hr (by unfold qg;rw [e];rfl)) fun hk=>Gr (show (2:UInt8)=1 from hk) (by decide)
 ·rw [zS.2.2.2.2.1 e];refine⟨_,by show zT (zad R x v (v+(qi x.ar x.an R).1) (qi x.ar x.an R).2)=_;rw [zbi,KQ],fun h hr=>?_⟩;show zU μ (zT (zad R x v (v+(qi x.ar x.an R).1) (qi x.ar x.an R).2));rw [zbi];exact zai (zai h fun _=>hr (by unfold qg;rw [e];rfl)) fun hk=>Gr (show (2:UInt8)=1 from hk) (by decide)
 ·rw [zS.2.2.2.2.2.1 e];unfold zdn
  split
  ·refine⟨_,by show zT (zad R x v (qi x.br x.bn R).1 (qi x.br x.bn R).2)=_;rw [zbi,KQ],fun h hr=>?_⟩;show zU μ (zT (zad R x v (qi x.br x.bn R).1 (qi x.br x.bn R).2));rw [zbi];exact zai (zai h fun _=>hr (by unfold qg;rw [e];rfl)) fun hk=>Gr (show (2:UInt8)=1 from hk) (by decide)
  ·refine⟨_,jX R 1 x.loc v 3 0,fun h hr=>?_⟩;show zU μ (zT (js R 1 x.loc v 3 0));rw [jX];exact zai h fun _=>hr (by unfold qg;rw [e];rfl)
 ·rw [zS.2.2.2.2.2.2.1 e];refine⟨_,jX R 3 0 0 x.mode 0,fun h hr=>?_⟩;show zU μ (zT (js R 3 0 0 x.mode 0));rw [jX];exact zai h fun hk=>Gr (show (3:UInt8)=1 from hk) (by decide)
 ·rw [zS.2.2.2.2.2.2.2 e];have:zT (zbB R x)=zT R:=by
   unfold zbB;dsimp only
   split <;> rfl
  exact⟨[],by rw [this,QL],fun h _=>by rw [this];exact h⟩
theorem zij (hx:ExG x):∃ more,zT (zY R x v)=zT R++more/\(zU μ (zT R)->(qg x=true->v=j9 μ (zT R) x.loc.toNat)->zU μ (zT (zY R x v))):=zs5 hx
variable {l:List InsD}
theorem zie (ht:ThG l):∀ (n:Nat) (S:RunD),RunOk l S->∃ more,zT (goR l n S)=zT S++more/\(zU μ (zT S)->zU μ (zT (goR l n S)))
 | 0,S,_=>⟨[],(QL _).symm,fun h=>h⟩
 | n+1,S,h=>by
  show ∃ more,zT (match l[S.pc]? with | none=>S | some x=>if qg x then S else goR l n (zY S x 0))=zT S++more/\(_->zU μ (zT (match l[S.pc]? with | none=>S | some x=>if qg x then S else goR l n (zY S x 0))))
  cases hg:l[S.pc]? with
  | none=>exact⟨[],(QL _).symm,fun h=>h⟩
  | some x =>
   dsimp only
   split
   ·exact⟨[],(QL _).symm,fun h=>h⟩
   ·rename_i hr;obtain⟨h1,h2⟩:=jI (v:=0) ht h hg;obtain⟨m1,e1,c1⟩:=zij (R:=S) (v:=0) (μ:=μ) (ht.2 _ _ hg).1;obtain⟨m2,e2,c2⟩:=zie ht n _ h1;exact⟨m1++m2,by rw [e2,e1,KQ],fun hc=>c2 (c1 hc fun hr'=>Gr hr' hr)⟩
theorem zeF (ht:ThG l) (V:List UInt8):∀ (n:Nat) (S:RunD),RunOk l S->∀ R∈zN l V n S,∃ more,zT R=zT (goR l l.length S)++more
 | 0,S,h,R,hR=>by
  have hR:=KB.1 hR;exact⟨[],by rw [hR,QL]⟩
 | n+1,S,h,R,hR=>by
  have hT:=zdN ht l.length S h;have hR:R∈(match l[(goR l l.length S).pc]? with | none=>[goR l l.length S] | some x=>V.flatMap fun v=>zN l V n (zY (goR l l.length S) x v)):=hR
  cases hg:l[(goR l l.length S).pc]? with
  | none =>
   rw [hg] at hR;exact⟨[],by rw [KB.1 hR,QL]⟩
  | some x =>
   rw [hg] at hR;obtain⟨v,hv,hR⟩:=List.mem_flatMap.1 hR;obtain⟨h1,h2⟩:=jI (v:=v) ht hT hg;obtain⟨m3,e3⟩:=zeF ht V n _ h1 R hR;obtain⟨m2,e2,_⟩:=zie (μ:=fun _=>0) ht l.length _ h1;obtain⟨m1,e1,_⟩:=zij (R:=goR l l.length S) (v:=v) (μ:=fun _=>0) (ht.2 _ _ hg).1;exact⟨m1++(m2++m3),by rw [e3,e2,e1];simp only [KQ]⟩
theorem zgt {V:List UInt8} (hV:V≠[]):∀ (n:Nat) (S:RunD),zN l V n S≠[]
 | 0,S=>by
  show [goR l l.length S]≠[];exact List.cons_ne_nil _ _
 | n+1,S=>by
  show (match l[(goR l l.length S).pc]? with | none=>[goR l l.length S] | some x=>V.flatMap fun v=>zN l V n (zY (goR l l.length S) x v))≠[]
  cases l[(goR l l.length S).pc]? with
  | none=>exact List.cons_ne_nil _ _
  | some x =>
   obtain⟨v,V',rfl⟩:=List.exists_cons_of_ne_nil hV;intro h;exact zgt hV n (zY (goR l l.length S) x v) (List.flatMap_eq_nil_iff.1 h v KA)
def ziG (l:List InsD) (μ:Nat->UInt8):Nat->RunD->RunD
 | 0,S=>goR l l.length S
 | n+1,S=>match l[(goR l l.length S).pc]? with
  | none=>goR l l.length S
  | some x=>ziG l μ n (zY (goR l l.length S) x (j9 μ (zT (goR l l.length S)) x.loc.toNat))
theorem zht (ht:ThG l) {V:List UInt8} (hV:V≠[]) (hμ:∀ a,μ a∈V):∀ (n:Nat) (S:RunD),RunOk l S->zU μ (zT S)->(∀ R∈zN l V n S,∀ e∈zT R,e.k=2->e.v∈V)->ziG l μ n S∈zN l V n S/\zU μ (zT (ziG l μ n S))
 | 0,S,h,hc,_=>by
  obtain⟨_,_,c⟩:=zie (μ:=μ) ht l.length S h;exact⟨KB.2 rfl,c hc⟩
 | n+1,S,h,hc,hw=>by
  have hT:=zdN ht l.length S h;obtain⟨_,_,c⟩:=zie (μ:=μ) ht l.length S h;have hcT:=c hc;have hwT:∀ e∈zT (goR l l.length S),e.k=2->e.v∈V:=fun e he hk=>by
   obtain⟨R,t,hR⟩:=List.exists_cons_of_ne_nil (zgt hV (n+1) S:zN l V (n+1) S≠[]);have hRm:R∈zN l V (n+1) S:=by rw [hR];exact KA
   obtain⟨m3,e3⟩:=zeF ht V (n+1) S h R hRm;exact hw R hRm e (by rw [e3];exact JW _ he) hk
  have hsp:zN l V (n+1) S=(match l[(goR l l.length S).pc]? with | none=>[goR l l.length S] | some x=>V.flatMap fun v=>zN l V n (zY (goR l l.length S) x v)):=rfl;have hsq:ziG l μ (n+1) S=(match l[(goR l l.length S).pc]? with | none=>goR l l.length S | some x=>ziG l μ n (zY (goR l l.length S) x (j9 μ (zT (goR l l.length S)) x.loc.toNat))):=rfl;rw [hsp] at hw;rw [hsp,hsq]
  cases hg:l[(goR l l.length S).pc]? with
  | none=>exact⟨KB.2 rfl,hcT⟩
  | some x =>
   rw [hg] at hw;have hv:=zke hwT hμ x.loc.toNat;obtain⟨h1,_⟩:=jI (v:=j9 μ (zT (goR l l.length S)) x.loc.toNat) ht hT hg;obtain⟨_,_,c1⟩:=zij (R:=goR l l.length S) (v:=j9 μ (zT (goR l l.length S)) x.loc.toNat) (μ:=μ) (ht.2 _ _ hg).1;obtain⟨g1,g2⟩:=zht ht hV hμ n _ h1 (c1 hcT fun _=>rfl) fun R hR=>hw R (List.mem_flatMap.2 ⟨_,hv,hR⟩);exact⟨List.mem_flatMap.2 ⟨_,hv,g1⟩,g2⟩
end
theorem zqC {α:Type}:∀ {a b:List α},a.Nodup->(∀ x∈a,x∈b)->a.length<=b.length
 | [],b,_,_=>Ga _
 | x::a,b,hn,h=>by
  obtain⟨h1,h2⟩:=QW.1 hn;obtain⟨s,t,rfl⟩:=List.append_of_mem (h x KA);have:=zqC (a:=a) (b:=s++t) h2 fun y hy=>by
   have:=h y (JY _ hy);rcases QT.1 this with h3 | h3
   ·exact JW _ h3
   ·rcases UE.1 h3 with h4 | h4
    ·subst h4;exact Gr hy h1
    ·exact JO _ h4
  rw [lap] at this;rw [Qu,lap,Qu];omega
theorem zgr {ths:List (List InsD)}:∀ {n:Nat} {vals V:List UInt8},zet ths n vals=some V->jn vals=vals->∀ l∈ths,∀ R∈qp l V,∀ e∈zT R,e.k=2->e.v∈V
 | 0,vals,V,h,_=>by cases h
 | n+1,vals,V,h,hd=>by
  unfold zet at h
  split at h
  ·cases h
  ·split at h
   ·cases h
   ·split at h
    ·rename_i hlen;have:=Ug h;subst this;intro l hl R hR e he hk;have hin:e.v∈zat ths vals:=by
      unfold zat;refine zbu.2 (JO _ (List.mem_flatMap.2 ⟨l,hl,?_⟩));unfold zaw;refine QU.2 ⟨zlC _,Qm.2 ⟨R,hR,?_⟩⟩;unfold zT at he;obtain⟨i,hi,rfl⟩:=UL.1 he;exact Qm.2 ⟨i,hi,by rw [Ut hk,Ut rfl];rfl⟩
     have hsub:∀ u∈vals,u∈zat ths vals:=fun u hu=>by
      unfold zat;exact zbu.2 (JW _ hu)
     have hn1:vals.Nodup:=by
      rw [<- hd];exact (zcR vals).imp fun h e=>by rw [e] at h;exact Nat.lt_irrefl _ h
     have hn2:(zat ths vals).Nodup:=(zcR _).imp fun h e=>by rw [e] at h;exact Nat.lt_irrefl _ h
     refine Jp fun hno=>?_;have h1:(e.v::vals).length<=(zat ths vals).length:=zqC (QW.2 ⟨hno,hn1⟩) fun u hu=>by
      rcases UE.1 hu with h | h
      ·rw [h];exact hin
      ·exact hsub u h
     rw [Qu] at h1;omega
    ·exact zgr h (zbv _)
theorem zn3 (k:Nat):∀ (es:List Ev) (μ:Nat->UInt8),j9 μ (jo k es)=j9 μ es
 | [],μ=>rfl
 | e::es,μ=>zn3 k es (if e.k=2 then upd μ e.l.toNat e.v else μ)
theorem cons_cons {μ:Nat->UInt8} {e:Ev} {es:List Ev}:zU μ (e::es)↔(e.k=1->e.v=μ e.l.toNat)/\zU (if e.k=2 then upd μ e.l.toNat e.v else μ) es:=by
 constructor
 ·intro h;exact⟨fun hk=>h [] e es rfl hk,fun A d B hd hk=>h (e::A) d B (by rw [hd];rfl) hk⟩
 ·rintro⟨h1,h2⟩ A d B hd hk
  cases A with
  | nil =>
   rw [QV,QM] at hd;obtain⟨rfl,rfl⟩:=hd;exact h1 hk
  | cons a A =>
   rw [Qn,QM] at hd;obtain⟨rfl,hd⟩:=hd;exact h2 A d B hd hk
theorem zon (k:Nat):∀ {es:List Ev} {μ:Nat->UInt8},zU μ es->zU μ (jo k es)
 | [],μ,_=>zdT μ
 | e::es,μ,h=>by
  obtain⟨h1,h2⟩:=cons_cons.1 h;show zU μ ({ e with th:=(k:Int) }::jo k es);exact cons_cons.2 ⟨h1,zon k h2⟩
theorem zjA:∀ (vs:List UInt8) (i:Nat) (μ:Nat->UInt8),zU μ (qo i vs)
 | [],i,μ=>zdT μ
 | v::vs,i,μ=>cons_cons.2 ⟨fun h=>Gr (show (2:UInt8)=1 from h) (by decide),zjA vs (i+1) _⟩
theorem zh3 (ν:Nat->UInt8) (a:Nat):∀ (n:Nat) (es:List Ev),es.length=n->(∃ (i:Nat) (e:Ev),es[i]?=some e/\e.k=2/\e.l.toNat=a)->∃ (s:Nat) (e:Ev),es[s]?=some e/\e.k=2/\e.l.toNat=a/\e.v=j9 ν es a/\∀ (w:Nat) (d:Ev),s<w->es[w]?=some d->d.k=2->d.l.toNat≠a
 | 0,es,hn,⟨i,e,h,_⟩=>by
  rw [List.length_eq_zero_iff.1 hn] at h;simp at h
 | n+1,es,hn,⟨i,e,h,hk,hl⟩=>by
  rcases List.eq_nil_or_concat es with hE | ⟨es',d,hE⟩
  ·subst hE;simp at h
  ·have hE:es=es'++[d]:=by rw [hE];simp
   subst hE;have hn':es'.length=n:=by simpa using hn
   have hmem:j9 ν (es'++[d]) a=(if d.k=2 then upd (j9 ν es') d.l.toNat d.v else j9 ν es') a:=by rw [zdI];rfl
   have hlast:(es'++[d])[es'.length]?=some d:=by rw [Jn (UX _),UQ];rfl
   by_cases hd:d.k=2/\d.l.toNat=a
   ·refine⟨es'.length,d,hlast,hd.1,hd.2,?_,fun w c hw hc=>?_⟩
    ·rw [hmem,Gq hd.1,hd.2,zL]
    ·have:=(Js.1 hc).1;rw [lap,List.length_singleton] at this;omega
   ·have hi:i<es'.length:=by
     have hi2:=(Js.1 h).1;rw [lap,List.length_singleton] at hi2;refine Nat.lt_of_le_of_ne (by omega) fun e2=>hd ?_;rw [e2,hlast] at h;rw [Ug h];exact⟨hk,hl⟩
    rw [Jr hi] at h;obtain⟨s,c,h1,h2,h3,h4,h5⟩:=zh3 ν a n es' hn' ⟨i,e,h,hk,hl⟩;have hs:=(Js.1 h1).1;refine⟨s,c,by rw [Jr hs];exact h1,h2,h3,?_,fun w f hw hf hfk hfl=>?_⟩
    ·rw [h4,hmem]
     split
     ·rename_i hdk;rw [qk _ _ (fun e2=>hd ⟨hdk,e2.symm⟩)]
     ·rfl
    ·by_cases hwl:w<es'.length
     ·rw [Jr hwl] at hf;exact h5 w f hw hf hfk hfl
     ·have hw2:=(Js.1 hf).1;rw [lap,List.length_singleton] at hw2;have:w=es'.length:=(by omega);rw [this,hlast] at hf;rw [<- Ug hf] at hfk hfl;exact hd ⟨hfk,hfl⟩
theorem zkK {ths:List (List InsD)}:∀ {n:Nat} {vals V:List UInt8},zet ths n vals=some V->∀ u∈vals,u∈V
 | 0,vals,V,h=>by cases h
 | n+1,vals,V,h=>by
  unfold zet at h
  split at h
  ·cases h
  ·split at h
   ·cases h
   ·split at h
    ·rw [<- Ug h];exact fun u hu=>hu
    ·intro u hu;refine zkK h u ?_;unfold zat;exact zbu.2 (JW _ hu)
theorem znA {V:List UInt8} (hV:V≠[]):∀ (ths:List (List InsD)) (k:Nat) (μ:Nat->UInt8),(∀ l∈ths,ThG l)->(∀ l∈ths,∀ R∈qp l V,∀ e∈zT R,e.k=2->e.v∈V)->(∀ a,μ a∈V) ->
  ∃ took:List PathD,took.length=ths.length/\(∀ (t:Nat) (l:List InsD),ths[t]?=some l->∃ R∈qp l V,took[t]?=some (jG R))/\zU μ (zbD k took)
 | [],k,μ,_,_,_=>⟨[],rfl,fun t l h=>by simp at h,zdT μ⟩
 | l::ths,k,μ,ht,hw,hμ=>by
  have hl:=ht l KA;have hwl:=hw l KA;obtain⟨h1,h2⟩:=zht hl hV hμ l.length zgN (zd6 l) (zdT μ) hwl;obtain⟨R,hR⟩:=nm (ziG l μ l.length zgN);rw [<- hR] at h1 h2;have hRe:R∈qp l V:=h1;obtain⟨took,g1,g2,g3⟩:=znA hV ths (k+1) (j9 μ (zT R)) (fun l' h=>ht l' (JY _ h)) (fun l' h=>hw l' (JY _ h)) (zke (hwl R hRe) hμ);refine⟨jG R::took,by rw [Qu,Qu,g1],fun t l' h=>?_,?_⟩
  ·cases t with
   | zero=>rw [<- Ug h];exact⟨R,hRe,rfl⟩
   | succ t=>exact g2 t l' h
  ·show zU μ (jo k (zT R)++zbD (k+1) took);refine zl4 (zon k h2) ?_;rw [zn3];exact g3
theorem zpy {p:Prg} {V:List UInt8} {took:List PathD} (hO:OkG p) (hc:zc0 p V) (hl:took.length=p.threads.length) (hR:∀ (t:Nat) (l:List InsD),p.threads[t]?=some l->∃ R∈qp l V,took[t]?=some (jG R)):∃ m∈qq p V,ChoiceW p.init took m:=by
 have hf:∀ t:Nat,∃ d:Nat,∀ l,p.threads[t]?=some l->∃ R,(qp l V)[d]?=some R/\took[t]?=some (jG R):=fun t=>by
  cases hg:p.threads[t]? with
  | none=>exact⟨0,fun l h=>by cases h⟩
  | some l =>
   obtain⟨R,h1,h2⟩:=hR t l hg;obtain⟨d,hd⟩:=List.mem_iff_getElem?.1 h1;exact⟨d,fun l' h=>by rw [<- Ug h];exact⟨R,hd,h2⟩⟩
 obtain⟨f,hf⟩:=Classical.axiomOfChoice hf;obtain⟨ds,hds⟩:=nm ((List.range p.threads.length).map f);have hdl:ds.length=p.threads.length:=by rw [hds,QO,KW]
 have hda:∀ t,t<p.threads.length->ds[t]?=some (f t):=fun t ht=>by rw [hds,KV,Ki ht];rfl
 have hdm:ds∈qj ((p.threads.map (zH V)).map List.length):=zlX (by rw [hdl,QO,QO]) fun i n d hn hd=>by
  have hi:i<p.threads.length:=by rw [<- hdl];exact (Js.1 hd).1
  rw [hda i hi] at hd;have hg:p.threads[i]?=some p.threads[i]:=gE hi;rw [KV,KV,hg] at hn;have hn:(zH V p.threads[i]).length=n:=Ug hn;obtain⟨R,h1,_⟩:=hf i _ hg;have:=(Js.1 h1).1;have e:(zH V p.threads[i]).length=(qp p.threads[i] V).length:=QO ..;rw [<- Ug hd];omega
 obtain⟨m,hm⟩:=Option.isSome_iff_exists.1 (hc.2.2 ds hdm);obtain⟨hC,_,hth⟩:=zcU hO hdm hm;refine⟨m,List.mem_filterMap.2 ⟨ds,hdm,hm⟩,?_⟩;have hPs:jl (p.threads.map (zH V)) ds=took:=by
  have h1:=(zg3 (p.threads.map (zH V)) ds (by rw [QO];exact hdl) (zao hdm).2).1;rw [QO] at h1;refine KR fun t=>?_;by_cases ht:t<p.threads.length
  ·obtain⟨d,d1,R,d2,d3,_⟩:=hth t _ (gE ht);rw [hda t ht] at d1;obtain⟨R',h3,h4⟩:=hf t _ (gE ht);rw [Ug d1,d2] at h3;rw [d3,h4,Ug h3]
  ·rw [JK (by omega),JK (by omega)]
 rw [hPs] at hC;exact hC
theorem zqk {k:Nat} {R:RunD} (h:RunW k R) (hm:R.many<=24) {a b:Nat} (hp:(a,b)∈(jG R).rmw):b=a+1:=by
 obtain⟨i,hi,h2⟩:=List.mem_flatMap.1 (show (a,b)∈zdd R.att R.many from hp);obtain⟨c,hc,he⟩:=UL.1 h2
 cases he
 rcases h.att b (Up.1 hi) with h3 | ⟨d,h3,h4,_⟩
 ·rw [h3,zau] at hc;cases hc
 ·rw [h4] at hc;have h5:=(qX.1 hc).2;rw [Kq] at h5;have:=dT h5;omega
theorem zjy:∀ (Ps:List PathD) (b i j:Nat),(∀ P∈Ps,∀ q∈P.rmw,q.2=q.1+1)->zd2 PathD.rmw b Ps i j->j=i+1
 | [],b,i,j,_,h=>h.elim
 | P::Ps,b,i,j,hP,h=>by
  rcases h with ⟨q,hq,h1,h2⟩ | h
  ·have:=hP P KA q hq;omega
  ·exact zjy Ps _ i j (fun Q hQ=>hP Q (JY _ hQ)) h
theorem zoy {p:Prg} {V:List UInt8} {took:List PathD} {m:MixD} (hO:OkG p) (hC:ChoiceW p.init took m) (t1:took.length=p.threads.length) (t2:∀ (t:Nat) (l:List InsD),p.threads[t]?=some l->∃ R∈qp l V,took[t]?=some (jG R)) {a b:Nat} (hb:zg m.base.rm a b=true):b=a+1:=by
 obtain⟨_,_,d3⟩:=zgp hC.P;rw [hC.base,d3] at hb;refine zjy took _ a b (fun P hP q hq=>?_) hb;obtain⟨t,ht⟩:=List.mem_iff_getElem?.1 hP;have htl:t<p.threads.length:=by rw [<- t1];exact (Js.1 ht).1
 obtain⟨R,hR,h⟩:=t2 t _ (gE htl);rw [ht] at h;rw [Ug h] at hq;have hle:=hO.tl _ (gM htl);obtain⟨w1,w2⟩:=zrc hle V R hR;exact zqk w1 w2 hq
theorem zpA {p:Prg} {V:List UInt8} {most:Nat} (hO:OkG p) (hc:zcc p V most) (hm20:most<=20000):∃ x∈qm p V,jh x=true/\(∀ m,qG m x=0)/\(∀ s r,zg x.rf s r=true->zpL x s r)/\∀ a b,zg x.co a b=true->a<b:=by
 obtain⟨hv1,hVd⟩:=zeB hO hc.1;have hV:V≠[]:=fun e=>by rw [e] at hv1;cases hv1
 have hi1:=hO.i1;have hsub:=zkK hc.1;have hinit:∀ u∈p.init,u∈V:=fun u hu=>hsub u (zbu.2 hu);have hcl:=zgr hc.1 (zbv _);obtain⟨ν,hν⟩:∃ ν:Nat->UInt8,ν=fun _=>p.init[0]:=⟨_,rfl⟩;have hν0:∀ a,ν a∈V:=fun a=>by rw [hν];exact hinit _ (gM _)
 have hμ:∀ a,j9 ν (qo 0 p.init) a∈V:=zke (fun e he _=>by
  obtain⟨i,hi,rfl⟩:=Kj he;rw [zV] at hi;have:=za5 p.init 0 hi;rw [gE (by rw [zV];exact hi)] at this;rw [Ug this];exact hinit _ (gM _)) hν0
 have htG:∀ l∈p.threads,ThG l:=fun l hl=>zfQ (hO.th l hl);obtain⟨took,t1,t2,t3⟩:=znA hV p.threads 0 (j9 ν (qo 0 p.init)) htG hcl hμ;obtain⟨m,hm,hC⟩:=zpy hO hc.2.1 t1 t2;have hev:m.base.ev=qo 0 p.init++zbD 0 took:=by rw [hC.base,zbA]
 have hcons:zU ν m.base.ev:=by rw [hev];exact zl4 (zjA _ _ _) t3
 have hsrc:∀ r,r<m.base.ev.length->(evA m.base r).k=1->∃ s,zpL m.base s r:=fun r hr hk=>by
  have hg:m.base.ev[r]?=some (evA m.base r):=by
   unfold evA;rw [gDe,gE hr];rfl
  have hsplit:m.base.ev=m.base.ev.take r++evA m.base r::m.base.ev.drop (r+1):=by
   have h1:m.base.ev[r]=evA m.base r:=by rw [gE hr] at hg;exact Ug hg
   conv=>lhs;rw [<- JQ r m.base.ev]
   rw [Jq hr,h1]
  have hval:=hcons _ _ _ hsplit hk;have hloc:(evA m.base r).l.toNat<p.init.length:=by
   refine zbE hC.i6 hC.P ?_ (.inl hk);rw [<- hC.base];exact JZ hg
  have hri:p.init.length<=r:=Nat.le_of_not_lt fun hlt=>by
   rw [hC.ini hlt] at hk
   cases hk
  have hi0:=hC.ini hloc;have hlr:(evA m.base r).l.toNat<r:=by omega
  have ge:∀ w,w<r->(m.base.ev.take r)[w]?=some (evA m.base w):=fun w hw=>by
   rw [List.getElem?_take_of_lt hw];unfold evA;rw [gDe,gE (show w<m.base.ev.length by omega)];rfl
  have hinit0:=ge _ hlr;obtain⟨s,e,s1,s2,s3,s4,s5⟩:=zh3 ν (evA m.base r).l.toNat _ (m.base.ev.take r) rfl ⟨_,_,hinit0,by rw [hi0],by rw [hi0];show (UInt8.ofNat (evA m.base r).l.toNat).toNat=_;rw [UInt8.ofNat_toNat]⟩;have hsr:s<r:=by
   have:=(Js.1 s1).1;rw [Qw] at this;omega
  rw [ge s hsr] at s1;have s1:=Ug s1;subst s1;exact⟨s,hsr,s2,Uh.1 s3,s4.trans hval.symm,fun w h1 h2 h3 h4=>s5 w _ h1 (ge w h2) h3 (by rw [h4])⟩
 have hcm:jr m 20001<20001:=by
  have h2:=hc.2.2;have:=zki (f:=fun m=>jr m 20001) hm;omega
 have hc1:jr m 1≠0:=by
  refine (zco fun w hw=>(hC.w1 hw).1).2 fun r hr e=>?_;obtain⟨d,d1,d2,d3⟩:=hC.rs hr;have hrl:=(Js.1 d1).1;have hed:evA m.base r.1=d:=by unfold evA;rw [gDe,d1];rfl
  obtain⟨s,g1,g2,g3,g4,_⟩:=hsrc r.1 hrl (by rw [hed];exact d2);have hloc:d.l.toNat<p.init.length:=by
   refine zbE hC.i6 hC.P ?_ (.inl d2);rw [<- hC.base];exact JZ d1
  rw [hC.wr.2 _ hloc] at d3;rw [hed] at g3 g4;have:s∈r.2:=by
   rw [d3];exact QU.2 ⟨zaC.2 ⟨by omega,Ut g2,by rw [g3]⟩,Ut g4⟩
  rw [e] at this;cases this
 have hw8:∀ w∈m.wr,fct (w.length-1)<=10000:=fun w hw=>by
  have h8:=zn9 (zih (fun w hw=>(hC.w1 hw).1) (lim:=20001) (by decide) hcm hc1 w hw);exact UO (zfy (b:=7) (by omega)) (by decide)
 obtain⟨_,ds,hd,f1,f2⟩:=hC.fwd hw8 hsrc;have hr:=hC.right hd;have hrl:=hC.rels hd;have hX:XOk (zA m ds):=zpM ⟨hrl.po.w,hrl.rf.w,hrl.co.w,hrl.dt.w,hrl.ct.w,hrl.rm.w⟩ hr;refine⟨zA m ds,List.mem_flatMap.2 ⟨m,hm,?_⟩,hr,fun k=>?_,f1,f2⟩
 ·unfold qy;rw [Gp hc1];exact Km hd
 ·exact zpj hX f1 f2 (fun a b hb=>zoy hO hC t1 t2 hb) k
def Fwd (x:ExD):Prop:=∀ i j,i<x.ev.length->zg (ziO x) i j=true->i<j
section
variable {x:ExD}
theorem zoo (h:XOk x) (hl0:∀ i,i<z4 x.ev->(evA x i).l.toNat=i) {a b:Nat} (ha:a<x.ev.length) (hb:zg x.co a b=true):z4 x.ev<=b:=by
 refine Nat.le_of_not_lt fun hlt=>?_;obtain⟨w1,w2,w3,w4⟩:=zdU h ha hb;have h48:=h.n;obtain⟨c1,c2,_⟩:=(zdV h.co).1 h.coR;obtain⟨l,hl,hal,hbl⟩:=(c2 a b (by omega)).1 hb;have hlb:b=l:=by
  have e1:=(zaC.1 hal).2.2;rw [w3,hl0 b hlt] at e1;exact e1
 subst hlb;have hh:=c1 b hl;rw [zdC] at hh;have hin:z4 x.ev<=x.ev.length:=zic x.ev;have hne:(sG x b).reverse≠[]:=fun e=>by rw [e] at hh;have:(48:Nat)=b:=hh;omega
 obtain⟨z,t,hzt⟩:=List.exists_cons_of_ne_nil hne;rw [hzt] at hh;have hz:z=b:=hh;have hs:sG x b=t.reverse++[z]:=by rw [<- Kc (sG x b),hzt,KX]
 have hnd:(sG x b).Nodup:=zhv b;have hp:(sG x b).Pairwise (fun a c=>a≠b):=by
  rw [hs] at hnd ⊢;rw [Kb];refine⟨?_,List.pairwise_singleton ..,?_⟩
  ·refine List.Pairwise.imp_of_mem (R:=fun _ _=>True) (fun {p q} hp _ _ e=>?_) (List.pairwise_of_forall fun _ _=>trivial);have:=(List.nodup_append.1 hnd).2.2 p hp z (KB.2 rfl);exact this (e.trans hz.symm)
  ·intro p hp q hq e;have:=(List.nodup_append.1 hnd).2.2 p hp z (KB.2 rfl);exact this (e.trans hz.symm)
 exact zjM hp (zaz.2 hal) hbl rfl
theorem zti (h:XOk x) (hl0:∀ i,i<z4 x.ev->(evA x i).k=2/\(evA x i).l.toNat=i) (hth:∀ i,z4 x.ev<=i->i<x.ev.length->(evA x i).th=0) (hb:qG 1 x=0):Fwd x:=by
 obtain⟨hA,_,_⟩:=zdp.1 hb;have hall:∀ o∈[x.rf,x.co,frM x],RelOk x.ev.length o:=fun o ho=>by
  simp only [UE,Qx,Gm] at ho;rcases ho with rfl | rfl | rfl
  ·exact h.rf
  ·exact h.co
  ·exact zdP h
 have hlocal:RelOk x.ev.length (zaa x) := .pick h.n _;obtain⟨U,hU⟩:=nm (qr (zaa x) [x.rf,x.co,frM x]);rw [<- hU] at hA;have hUo:RelOk x.ev.length U:=by rw [hU];exact zc5 hlocal hall
 have hbit:∀ i j,i<x.ev.length->zg U i j=(zg (zaa x) i j||[x.rf,x.co,frM x].any fun o=>zg o i j):=fun i j hi=>by rw [hU];exact zc6 hi hlocal hall
 rw [acy_tc hUo] at hA;have cyc:∀ i j,i<x.ev.length->j<x.ev.length->zg U i j=true->zg U j i=true->False:=fun i j hi hj h1 h2=>hA i (.step (.one ⟨hi,h1⟩) ⟨hj,h2⟩);have loc:∀ i j,i<j->j<x.ev.length->z4 x.ev<=i->zbn x i j=true->zg U i j=true:=fun i j hij hj hi hs=>by
  rw [hbit i j (by omega)];have:zg (zaa x) i j=true:=by
   unfold zaa;rw [zdF,(zmO h (by omega)).2 ⟨by rw [hth i hi (by omega)];decide,hij,hj,by rw [hth i hi (by omega),hth j (by omega) hj]⟩,hs];simp only [bAT,dE,Bool.and_self,Gj];omega
  rw [this];rfl
 obtain⟨rf1,_⟩:=(zfW h.rf).1 h.rfR;have rfU:∀ i j,i<x.ev.length->zg x.rf i j=true->zg U i j=true:=fun i j hi hb=>by rw [hbit i j hi];simp [hb]
 have coU:∀ i j,i<x.ev.length->zg x.co i j=true->zg U i j=true:=fun i j hi hb=>by rw [hbit i j hi];simp [hb]
 have frU:∀ i j,i<x.ev.length->zg (frM x) i j=true->zg U i j=true:=fun i j hi hb=>by rw [hbit i j hi];simp [hb]
 have sm:∀ i j,zbN x i=true->zbN x j=true->(evA x i).l=(evA x j).l->zbn x i j=true:=fun i j h1 h2 h3=>by
  unfold zbn;rw [h1,h2,h3];simp
 have accW:∀ i,isW x i=true->zbN x i=true:=fun i hw=>by
  unfold zbN;rw [hw,Bool.or_true]
 have accR:∀ i,isR x i=true->zbN x i=true:=fun i hw=>by
  unfold zbN;rw [hw,Bool.true_or]
 have rdI:∀ i,isR x i=true->z4 x.ev<=i:=fun i hr=>Nat.le_of_not_lt fun hlt=>by
  have h1:(evA x i).k=1:=dT hr;rw [(hl0 i hlt).1] at h1;exact Gr h1 (by decide)
 have rw_ne:∀ i,isR x i=true->isW x i=true->False:=fun i h1 h2=>by
  have h1:(evA x i).k=1:=dT h1;have h2:(evA x i).k=2:=dT h2;rw [h1] at h2;exact Gr h2 (by decide)
 intro i j hi hb;have hj:j<x.ev.length:=by
  exact ((zrK h).bit (by have:=h.n;omega) hb).2
 rw [zag h hi,QI,QI,QI] at hb;rcases hb with (hb | hb) | hb | hb
 ·exact ((zmO h hi).1 hb).2.1
 ·obtain⟨g1,g2,g3,_⟩:=rf1 i j hi hj hb;refine QB fun hle=>?_;rcases Nat.eq_or_lt_of_le hle with e | hlt
  ·exact rw_ne j g2 (by rw [e];exact g1)
  ·exact cyc i j hi hj (rfU i j hi hb) (loc j i hlt hi (rdI j g2) (sm j i (accR j g2) (accW i g1) g3.symm))
 ·obtain⟨g1,g2,g3,g4⟩:=zdU h hi hb;have hji:=zoo h (fun i hi=>(hl0 i hi).2) hi hb;exact QB fun hle=>cyc i j hi hj (coU i j hi hb) (loc j i (Nat.lt_of_le_of_ne hle (Ne.symm g4)) hi hji (sm j i (accW j g2) (accW i g1) g3.symm))
 ·obtain⟨s,hs,h1,h2⟩:=(ze2 h.rf.back h.co hi).1 hb;rw [za6 h.rf (by have:=h.n;omega),bAT] at h1;obtain⟨g1,g2,g3,_⟩:=rf1 s i hs hi h1.2;obtain⟨w1,w2,w3,w4⟩:=zdU h hs h2;have hji:=zoo h (fun i hi=>(hl0 i hi).2) hs h2;refine QB fun hle=>?_;rcases Nat.eq_or_lt_of_le hle with e | hlt
  ·exact rw_ne i g2 (by rw [<- e];exact w2)
  ·exact cyc i j hi hj (frU i j hi hb) (loc j i hlt hi hji (sm j i (accW j w2) (accR i g2) (w3.symm.trans g3)))
theorem zhZ (ν:Nat->UInt8) (l:UInt8):∀ (i:Nat),i<=x.ev.length->∀ {s:Nat},zdf x (List.range i) l=some s->j9 ν (x.ev.take i) l.toNat=(evA x s).v
 | 0,_,s,h=>by cases h
 | i+1,hi,s,h=>by
  have ht:x.ev.take (i+1)=x.ev.take i++[evA x i]:=by
   rw [List.take_add_one];congr 1;unfold evA;rw [gDe,gE (by omega)];rfl
  have hm:j9 ν (x.ev.take (i+1)) l.toNat=(if (evA x i).k=2 then upd (j9 ν (x.ev.take i)) (evA x i).l.toNat (evA x i).v else j9 ν (x.ev.take i)) l.toNat:=by rw [ht,zdI];rfl
  unfold zdf at h;rw [QX,Kw] at h;rw [hm];by_cases hp:(isW x i&&decide ((evA x i).l=l))=true
  ·rw [Qp,Gq hp,List.filter_nil,List.getLast?_append] at h;have hs:i=s:=by simpa using h
   subst hs;rw [bAT,dE] at hp;rw [Gq (dT hp.1:(evA x i).k=2),hp.2,zL]
  ·rw [Qp,Gp hp,List.filter_nil,QL] at h;have ih:=zhZ ν l i (by omega) (s:=s) h
   split
   ·rename_i hk;rw [qk _ _ (fun e=>hp ?_),ih];have:isW x i=true:=Ut hk;rw [this,Ut (Uh.1 e.symm)];rfl
   ·exact ih
theorem zjr (h:XOk x) (hf:Fwd x):∀ A a t,List.range x.ev.length=A++a::t->∀ b∈a::t,zg (ziO x) b a=false:=fun A a t he b hb=>by
 cases hh:zg (ziO x) b a
 ·rfl
 ·have hbn:b<x.ev.length:=Up.1 (by rw [he];exact JO _ hb);have:=hf b a hbn hh;have hp:(A++a::t).Pairwise (· < ·):=by rw [<- he];exact List.pairwise_lt_range
  rcases UE.1 hb with rfl | hb
  ·omega
  ·have:=(List.pairwise_cons.1 (Kb.1 hp).2.1).1 b hb;omega
theorem zle {n i:Nat} (hi:i<n):∃ t,List.range n=List.range i++i::t:=by
 have h1:List.range n=List.range (i+1)++((List.range n).drop (i+1)):=by
  conv=>lhs;rw [<- JQ (i+1) (List.range n),List.take_range,Ub (by omega)]
 exact⟨_,by rw [h1,QX,KQ];rfl⟩
theorem zg9 (h:XOk x) (hloc:∀ i,i<x.ev.length->isW x i=true->(evA x i).l.toNat<z4 x.ev) (hf:Fwd x) {i:Nat} (hi:i<x.ev.length) (hr:isR x i=true):∃ s,zdf x (List.range i) (evA x i).l=some s/\s<x.ev.length/\zg x.rf s i=true/\(evA x s).v=(evA x i).v:=by
 obtain⟨t,ht⟩:=zle hi;exact zmJ h hloc (List.Perm.refl _) (zjr h hf) ht hr
theorem zdO (h:XOk x) (hloc:∀ i,i<x.ev.length->isW x i=true->(evA x i).l.toNat<z4 x.ev) (hf:Fwd x) (ν:Nat->UInt8):zU ν x.ev:=fun A e B he hk=>by
 have hi:A.length<x.ev.length:=by rw [he,lap,Qu];omega
 have hA:x.ev.take A.length=A:=by rw [he,List.take_left]
 have hev:evA x A.length=e:=by
  unfold evA;rw [he,gDe,Jn (UX _),UQ];rfl
 obtain⟨s,h1,h2,_,h4⟩:=zg9 h hloc hf hi (Ut (by rw [hev];exact hk));rw [hev] at h1 h4;have:=zhZ ν e.l A.length (by omega) h1;rw [hA] at this;rw [this,h4]
theorem zpk (h:XOk x) (hf:Fwd x) (ν:Nat->UInt8) {l:Nat} (hl:l<z4 x.ev) (h6:l<6):x.mem l=j9 ν x.ev l:=by
 obtain⟨s,h1,h2,h3⟩:=zlS h (List.Perm.refl _) (zjr h hf) hl h6;have:=zhZ ν _ x.ev.length (UX _) h1;rw [Qy,KI,QE (by omega)] at this;rw [<- h3,this]
end
section
variable {R:RunD} {x:InsD} {v:UInt8} {μ:Nat->UInt8}
theorem zpq (hx:ExG x) (hr:qg x=true):∃ e more,zT (zdv R x v)=zT R++e::more/\e.k=1/\e.l=x.loc/\e.v=v:=by
 rcases hx with ⟨e,-⟩ | ⟨e,-⟩ | ⟨e,-⟩ | ⟨e,-⟩ | ⟨e,-⟩ | ⟨e,-⟩ | e | ⟨e,-⟩
 ·rw [zS.1 e];exact⟨_,[],jX R 1 x.loc v x.mode 0,rfl,rfl,rfl⟩
 ·unfold qg at hr;rw [e] at hr;cases hr
 ·unfold qg at hr;rw [e] at hr;cases hr
 ·rw [zS.2.2.2.1 e];exact⟨_,_,by show zT (zad R x v (qi x.ar x.an R).1 (qi x.ar x.an R).2)=_;rw [zbi,KQ];rfl,rfl,rfl,rfl⟩
 ·rw [zS.2.2.2.2.1 e];exact⟨_,_,by show zT (zad R x v (v+(qi x.ar x.an R).1) (qi x.ar x.an R).2)=_;rw [zbi,KQ];rfl,rfl,rfl,rfl⟩
 ·rw [zS.2.2.2.2.2.1 e];unfold zdn
  split
  ·exact⟨_,_,by show zT (zad R x v (qi x.br x.bn R).1 (qi x.br x.bn R).2)=_;rw [zbi,KQ];rfl,rfl,rfl,rfl⟩
  ·exact⟨_,[],jX R 1 x.loc v 3 0,rfl,rfl,rfl⟩
 ·unfold qg at hr;rw [e] at hr;cases hr
 ·unfold qg at hr;rw [e] at hr;cases hr
theorem zm3 (hx:ExG x) (hr:qg x=true):∃ e more,zT (zY R x v)=zT R++e::more/\e.k=1/\e.l=x.loc/\e.v=v:=zpq hx hr
variable {l:List InsD}
theorem zhs (ht:ThG l) (V:List UInt8):∀ (n:Nat) (S:RunD),RunOk l S->∀ R∈zN l V n S,zU μ (zT R)->R=ziG l μ n S
 | 0,S,h,R,hR,_=>KB.1 hR
 | n+1,S,h,R,hR,hc=>by
  have hT:=zdN ht l.length S h;have hR:R∈(match l[(goR l l.length S).pc]? with | none=>[goR l l.length S] | some x=>V.flatMap fun v=>zN l V n (zY (goR l l.length S) x v)):=hR;have hsq:ziG l μ (n+1) S=(match l[(goR l l.length S).pc]? with | none=>goR l l.length S | some x=>ziG l μ n (zY (goR l l.length S) x (j9 μ (zT (goR l l.length S)) x.loc.toNat))):=rfl;rw [hsq]
  cases hg:l[(goR l l.length S).pc]? with
  | none =>
   rw [hg] at hR;exact KB.1 hR
  | some x =>
   rw [hg] at hR;obtain⟨v,hv,hR⟩:=List.mem_flatMap.1 hR;obtain⟨h1,h2⟩:=jI (v:=v) ht hT hg;obtain⟨m3,e3⟩:=zeF ht V n _ h1 R hR;obtain⟨m2,e2,_⟩:=zie (μ:=fun _=>0) ht l.length _ h1;have hrd:qg x=true:=zft ht l.length S h (QA _ _) x hg;obtain⟨e,m1,e1,k1,k2,k3⟩:=zm3 (R:=goR l l.length S) (v:=v) (ht.2 _ _ hg).1 hrd;have hev:zT R=zT (goR l l.length S)++e::(m1++(m2++m3)):=by rw [e3,e2,e1];simp only [KQ,Qn]
   have:=hc _ _ _ hev k1;rw [k2,k3] at this;have ih:=zhs ht V n _ h1 R hR hc;show R=ziG l μ n (zY (goR l l.length S) x (j9 μ (zT (goR l l.length S)) x.loc.toNat));rw [<- this];exact ih
end
theorem zit {μ:Nat->UInt8} {a b:List Ev} (h:zU μ (a++b)):zU (j9 μ a) b:=fun A e B he hk=>by
 rw [<- zdI];exact h (a++A) e B (by rw [he,KQ]) hk
theorem zjP (k:Nat):∀ {es:List Ev} {μ:Nat->UInt8},zU μ (jo k es)->zU μ es
 | [],μ,_=>zdT μ
 | e::es,μ,h=>by
  have h:zU μ ({ e with th:=(k:Int) }::jo k es):=h;obtain⟨h1,h2⟩:=cons_cons.1 h;exact cons_cons.2 ⟨h1,zjP k h2⟩
section
variable {init:List UInt8} {Ps:List PathD} {m:MixD} {ds es:List Nat}
theorem ChoiceW.dig_eq (h:ChoiceW init Ps m) (hd:ds∈qj (zK m)) (he:es∈qj (zK m)) (h2:qM (zA m ds).rf (zA m es).rf=true) (h3:qM (zA m ds).co (zA m es).co=true):ds=es:=by
 have l1:=(zao hd).1;have l2:=(zao he).1;have hl:(zK m).length=m.rs.length+init.length:=by
  unfold zK;rw [lap,QO,QO,h.wr.1]
 refine KR fun t=>?_;by_cases ht:t<m.rs.length
 ·exact h.rf_dig hd he h2 ht
 ·by_cases ht2:t<m.rs.length+init.length
  ·have:=h.co_dig hd he h3 (l:=t-m.rs.length) (by omega);rw [show m.rs.length+(t-m.rs.length)=t by omega] at this;exact this
  ·rw [JK (by omega),JK (by omega)]
end
theorem zqY {x y:ExD} (hx:XOk x) (hy:XOk y) (hloc:∀ i,i<x.ev.length->isW x i=true->(evA x i).l.toNat<z4 x.ev) (hev:x.ev=y.ev) (fx:Fwd x) (fy:Fwd y) {s r:Nat} (hs:s<x.ev.length) (hb:zg x.rf s r=true):zg y.rf s r=true:=by
 obtain⟨r1,r2⟩:=(zfW hx.rf).1 hx.rfR;have hr:r<x.ev.length:=(hx.rf.bit (by have:=hx.n;omega) hb).2;obtain⟨g1,g2,g3,g4⟩:=r1 s r hs hr hb;obtain⟨s1,a1,a2,a3,_⟩:=zg9 hx hloc fx hr g2;have e1:=(r2 r hr g2).2 s s1 hs a2 hb a3;have eA:∀ i,evA y i=evA x i:=fun i=>by unfold evA;rw [hev]
 have eW:∀ i,isW y i=isW x i:=fun i=>by unfold isW;rw [eA]
 have eR:∀ i,isR y i=isR x i:=fun i=>by unfold isR;rw [eA]
 obtain⟨s2,b1,b2,b3,_⟩:=zg9 hy (fun i hi hw=>by rw [eA,<- hev];rw [eW] at hw;exact hloc i (by rw [hev];exact hi) hw) fy (by rw [<- hev];exact hr) (by rw [eR];exact g2);have:zdf y (List.range r) (evA y r).l=zdf x (List.range r) (evA x r).l:=by
  unfold zdf;rw [eA];congr 1;refine KS fun i _=>?_;rw [eW,eA]
 rw [this,a1] at b1;rw [e1,Ug b1];exact b3
theorem zq0 {x y:ExD} (hx:XOk x) (hy:XOk y) (hloc:∀ i,i<x.ev.length->isW x i=true->(evA x i).l.toNat<z4 x.ev) (hev:x.ev=y.ev) (fx:Fwd x) (fy:Fwd y) {a b:Nat} (ha:a<x.ev.length) (hb:zg x.co a b=true):zg y.co a b=true:=by
 obtain⟨g1,g2,g3,g4⟩:=zdU hx ha hb;have hbn:b<x.ev.length:=(hx.co.bit (by have:=hx.n;omega) hb).2;have hab:=fx a b ha (by rw [zag hx ha,hb,Bool.true_or,Bool.or_true]);have eA:∀ i,evA y i=evA x i:=fun i=>by unfold evA;rw [hev]
 have eW:∀ i,isW y i=isW x i:=fun i=>by unfold isW;rw [eA]
 rcases zl6 hy (i:=a) (j:=b) (by rw [<- hev];exact ha) (by rw [<- hev];exact hbn) (by rw [eW];exact g1) (by rw [eW];exact g2) (by rw [eA,eA];exact g3) g4 (by rw [eA,<- hev];exact hloc a ha g1) with h | h
 ·exact h
 ·have:=fy b a (by rw [<- hev];exact hbn) (by rw [zag hy (by rw [<- hev];exact hbn),h,Bool.true_or,Bool.or_true]);omega
theorem zqZ {x y:ExD} (hx:XOk x) (hy:XOk y) (hloc:∀ i,i<x.ev.length->isW x i=true->(evA x i).l.toNat<z4 x.ev) (hev:x.ev=y.ev) (fx:Fwd x) (fy:Fwd y):qM x.rf y.rf=true/\qM x.co y.co=true:=by
 have eA:∀ i,evA y i=evA x i:=fun i=>by unfold evA;rw [hev]
 have eW:∀ i,isW y i=isW x i:=fun i=>by unfold isW;rw [eA]
 have hloc':∀ i,i<y.ev.length->isW y i=true->(evA y i).l.toNat<z4 y.ev:=fun i hi hw=>by
  rw [eA,<- hev];rw [eW] at hw;exact hloc i (by rw [hev];exact hi) hw
 refine⟨zk7 hx.rf (by rw [hev];exact hy.rf) fun i j hi _=>?_,zk7 hx.co (by rw [hev];exact hy.co) fun i j hi _=>?_⟩
 ·exact Bool.eq_iff_iff.2 ⟨zqY hx hy hloc hev fx fy hi,zqY hy hx hloc' hev.symm fy fx (by rw [<- hev];exact hi)⟩
 ·exact Bool.eq_iff_iff.2 ⟨zq0 hx hy hloc hev fx fy hi,zq0 hy hx hloc' hev.symm fy fx (by rw [<- hev];exact hi)⟩
theorem zaY {p:Prg} {V:List UInt8} (hO:OkG p) {x:ExD} (hx:x∈qm p V):∃ (took:List PathD) (m:MixD),ChoiceW p.init took m/\m∈qq p V/\x∈qy m/\took.length=p.threads.length/\∀ (t:Nat) (l:List InsD),p.threads[t]?=some l->∃ R∈qp l V,took[t]?=some (jG R):=by
 obtain⟨m,hm,hx⟩:=List.mem_flatMap.1 hx;obtain⟨ds,hds,hmd⟩:=List.mem_filterMap.1 hm;obtain⟨hC,hdl,hth⟩:=zcU hO hds hmd;refine⟨_,m,hC,hm,hx,?_,fun t l hg=>?_⟩
 ·rw [(zg3 (p.threads.map (zH V)) ds (by rw [QO];exact hdl) (zao hds).2).1,QO]
 ·obtain⟨d,_,R,d2,d3,_⟩:=hth t l hg;exact⟨R,JZ d2,d3⟩
theorem zav {m:MixD} {x:ExD} (h:x∈qy m):jr m 1≠0/\∃ ds∈qj (zK m),x=zA m ds:=by
 unfold qy at h
 split at h
 ·cases h
 ·rename_i h1;obtain⟨ds,hd,rfl⟩:=UL.1 h;exact⟨h1,ds,hd,rfl⟩
structure CandI (p:Prg) (x:ExD):Prop where
 ok:XOk x
 ini:z4 x.ev=p.init.length
 l0:∀ i,i<z4 x.ev->(evA x i).k=2/\(evA x i).l.toNat=i
 loc:∀ i,i<x.ev.length->isW x i=true->(evA x i).l.toNat<z4 x.ev
 rm:∀ a b,zg x.rm a b=true->b=a+1
theorem zcp {p:Prg} {V:List UInt8} (hO:OkG p) {x:ExD} (hx:x∈qm p V):CandI p x:=by
 obtain⟨took,m,hC,hm,hx,t1,t2⟩:=zaY hO hx;obtain⟨h1,ds,hd,rfl⟩:=zav hx;have hr:=hC.right hd;have hrl:=hC.rels hd;have hX:XOk (zA m ds):=zpM ⟨hrl.po.w,hrl.rf.w,hrl.co.w,hrl.dt.w,hrl.ct.w,hrl.rm.w⟩ hr;have hin:z4 (zA m ds).ev=p.init.length:=hC.inits;refine⟨hX,hin,fun i hi=>?_,fun i hi hw=>?_,fun a b hb=>zoy hO hC t1 t2 hb⟩
 ·rw [hin] at hi;have h6:=hC.i6;have e:evA (zA m ds) i=⟨-1,2,UInt8.ofNat i,p.init[i],0,0,0⟩:=hC.ini hi;rw [e];exact⟨rfl,by show (UInt8.ofNat i).toNat=i;rw [KI];omega⟩
 ·rw [hin];refine zbE hC.i6 hC.P ?_ (.inr (dT hw));have:evA (zA m ds) i∈m.base.ev:=by
   unfold evA;rw [gDe,gE hi];exact gM hi
  rw [<- hC.base];exact this
theorem zj9 {p:Prg} {V:List UInt8} (hO:OkG p) (h1:p.threads.length<=1) {took:List PathD} {m:MixD} (hC:ChoiceW p.init took m) (t1:took.length=p.threads.length) (t2:∀ (t:Nat) (l:List InsD),p.threads[t]?=some l->∃ R∈qp l V,took[t]?=some (jG R)) :
  (p.threads=[]/\took=[]/\m.base.ev=qo 0 p.init)\/∃ l R,p.threads=[l]/\R∈qp l V/\took=[jG R]/\m.base.ev=qo 0 p.init++jo 0 (zT R):=by
 have he:m.base.ev=qo 0 p.init++zbD 0 took:=by rw [hC.base,zbA]
 match hp:p.threads,h1 with
 | [],_ =>
  rw [hp] at t1;have ht:=List.length_eq_zero_iff.1 t1;refine .inl ⟨rfl,ht,?_⟩;rw [he,ht];exact QL _
 | [l],_ =>
  obtain⟨R,hR,ht⟩:=t2 0 l (by rw [hp];rfl);rw [hp] at t1
  match took,t1 with
  | [P],_ =>
   have:P=jG R:=Ug ht;refine .inr ⟨l,R,rfl,hR,by rw [this],?_⟩;rw [he,this];show _++(jo 0 (zT R)++[])=_;rw [QL]
theorem zfh {p:Prg} {V:List UInt8} (hO:OkG p) (h1:p.threads.length<=1) {x:ExD} (hx:x∈qm p V) (hb:qG 1 x=0):Fwd x:=by
 have hI:=zcp hO hx;obtain⟨took,m,hC,hm,hx,t1,t2⟩:=zaY hO hx;obtain⟨_,ds,hd,rfl⟩:=zav hx;refine zti hI.ok hI.l0 (fun i hi hil=>?_) hb;rw [hI.ini] at hi;have hev:(zA m ds).ev=m.base.ev:=rfl;have hia:evA (zA m ds) i∈m.base.ev.drop p.init.length:=by
  unfold evA;rw [gDe,gE hil];have:m.base.ev[i]?=(m.base.ev.drop p.init.length)[i-p.init.length]?:=by
   rw [Kx,show p.init.length+(i-p.init.length)=i by omega]
  refine JZ (i:=i-p.init.length) ?_;rw [<- this];exact gE hil
 rcases zj9 hO h1 hC t1 t2 with ⟨_,_,e⟩ | ⟨l,R,_,_,_,e⟩
 ·rw [e,JB (by rw [zV];exact UX _)] at hia
  cases hia
 ·rw [e,List.drop_left' (zV ..)] at hia;obtain⟨d,_,hd⟩:=UL.1 hia;rw [<- hd];rfl
theorem zqy {p:Prg} {V:List UInt8} (hO:OkG p) (h1:p.threads.length<=1) {x y:ExD} (hx:x∈qm p V) (hy:y∈qm p V) (fx:Fwd x) (fy:Fwd y):x=y:=by
 have hI:=zcp hO hx;have hJ:=zcp hO hy;have hi1:=hO.i1;obtain⟨ν,hν⟩:∃ ν:Nat->UInt8,ν=fun _=>0:=⟨_,rfl⟩;have cx:=zdO hI.ok hI.loc fx ν;have cy:=zdO hJ.ok hJ.loc fy ν;obtain⟨tx,mx,hC,hm,hx,t1,t2⟩:=zaY hO hx;obtain⟨ty,my,hD,hn,hy,u1,u2⟩:=zaY hO hy;obtain⟨_,ds,hd,rfl⟩:=zav hx;obtain⟨_,es,he,rfl⟩:=zav hy;have ht:tx=ty:=by
  rcases zj9 hO h1 hC t1 t2 with ⟨p1,e,_⟩ | ⟨l,R,p1,hR,e,ev⟩ <;> rcases zj9 hO h1 hD u1 u2 with ⟨p2,f,_⟩ | ⟨l',R',p2,hR',f,ew⟩
  ·rw [e,f]
  ·rw [p1] at p2;cases p2
  ·rw [p1] at p2;cases p2
  ·rw [p1] at p2
   cases p2
   have hl:ThG l:=zfQ (hO.th l (by rw [p1];exact KA));have cx:zU ν (qo 0 p.init++jo 0 (zT R)):=by rw [<- ev];exact cx
   have cy:zU ν (qo 0 p.init++jo 0 (zT R')):=by rw [<- ew];exact cy
   have a1:=zhs hl V l.length zgN (zd6 l) R hR (zjP 0 (zit cx));have a2:=zhs hl V l.length zgN (zd6 l) R' hR' (zjP 0 (zit cy));rw [e,f,a1,a2]
 subst ht;have hmm:mx=my:=by rw [hC.m,hD.m]
 subst hmm;obtain⟨r1,r2⟩:=zqZ hI.ok hJ.ok hI.loc rfl fx fy;rw [hC.dig_eq hd he r1 r2]
theorem zss {p:Prg} {V:List UInt8} {most:Nat} (hO:OkG p) (hc:zcc p V most) (hm20:most<=20000) (hV:V.Nodup) (h1:p.threads.length<=1) :
  (∀ x∈qm p V,(∀ m,qG m x=0↔qG 1 x=0)/\(qG 1 x=0->(∀ ν,zU ν x.ev)/\∀ ν l,l<p.init.length->x.mem l=j9 ν x.ev l)) /\
  ∃ i,i<(qm p V).length/\∀ (j:Nat) (x:ExD),(qm p V)[j]?=some x->(qG 1 x=0↔j=i):=by
 obtain⟨x0,hx0,_,hb0,_,_⟩:=zpA hO hc hm20;have f0:=zfh hO h1 hx0 (hb0 1);refine⟨fun x hx=>⟨fun m=>?_,fun hb=>?_⟩,?_⟩
 ·by_cases hb:qG 1 x=0
  ·have hI:=zcp hO hx;have fx:=zfh hO h1 hx hb;exact⟨fun _=>hb,fun _=>zlQ hI.ok (fun i=>i) fx hI.rm m⟩
  ·refine⟨fun h=>?_,fun h=>Gr h hb⟩;have hI:=zcp hO hx;obtain⟨g1,g2,_⟩:=zdp.1 h;exact zdp.2 ⟨g1,g2,.inl rfl⟩
 ·have hI:=zcp hO hx;have fx:=zfh hO h1 hx hb;have h6:p.init.length<=6:=hO.i6;exact⟨fun ν=>zdO hI.ok hI.loc fx ν,fun ν l hl=>zpk hI.ok fx ν (by rw [hI.ini];exact hl) (by omega)⟩
 ·obtain⟨i,hi⟩:=List.mem_iff_getElem?.1 hx0;refine⟨i,(Js.1 hi).1,fun j x hj=>⟨fun hb=>?_,fun e=>?_⟩⟩
  ·have e:=zqy hO h1 (JZ hj) hx0 (zfh hO h1 (JZ hj) hb) f0;rw [e] at hj;have hp:=cands_ne hO hV;rcases Nat.lt_trichotomy j i with h | h | h
   ·have:=List.pairwise_iff_getElem.1 hp j i (Js.1 hj).1 (Js.1 hi).1 h;rw [(Js.1 hj).2,(Js.1 hi).2,zi1] at this
    cases this
   ·exact h
   ·have:=List.pairwise_iff_getElem.1 hp i j (Js.1 hi).1 (Js.1 hj).1 h;rw [(Js.1 hj).2,(Js.1 hi).2,zi1] at this
    cases this
  ·subst e;rw [hi] at hj;rw [<- Ug hj];exact hb0 1
def zcq (p:Prg) (V:List UInt8) (most:Nat):Bool :=
 zdt p&&(decide (zd4 p=some V)&&((p.threads.all fun l=>decide ((qp l V).length<=4096))&&(((List.range (p.threads.length+1)).all fun k=>decide (zbP ((p.threads.take k).map fun l=>(zH V l).length)<=4096)) &&
  (((qj ((p.threads.map (zH V)).map List.length)).all fun ds=>(zhY p.init (jl (p.threads.map (zH V)) ds)).isSome)&&decide (((qq p V).map fun m=>jr m 20001).sum<=most)))))
theorem zpD {p:Prg} {V:List UInt8} {most:Nat} (h:zcq p V most=true):zdt p=true/\zcc p V most:=by
 unfold zcq at h;simp only [bAT,dE,Ql,Up] at h;obtain⟨h1,h2,h3,h4,h5,h6⟩:=h;exact⟨h1,h2,⟨h3,fun k hk=>h4 k (by omega),h5⟩,h6⟩
section
variable {w:Wd} {B most:Nat} {pc:List Value} {p:Prg} {V:List UInt8}
theorem zrV (hB:B<=w.heap.size) (hP:PrgX B w pc p) (hG:GlobE w) (hm20:most<=20000) (hq:zcq p V most=true) :
  Calls PG 12 #[.agg pc.toArray,i64 most] w fun e w'=>(∃ (xs:List zca) (q:OA) (c:Nat),e = .returned (.tuple #[.slice q xs.length c,i64 0])/\xs.map (·.1)=qm p V/\OwnS exE 46 w.heap.size w' q c xs/\∀ x∈xs,OwnS evE 49 w.heap.size w' x.2.1 x.2.2 x.1.ev)/\Bw w w':=by
 obtain⟨hok,hc⟩:=zpD hq;refine cmo (zmo hB hP hG hok hm20 fun V _=>zmc (zfi hok)) ?_;rintro e X ⟨(⟨V',h1,h2⟩ | ⟨h1,_⟩),hb⟩
 ·have:V'=V:=by
   have e1:=h1.1;rw [hc.1] at e1;exact (Ug e1).symm
  subst this;exact⟨h2,hb⟩
 ·exact Gr hc (h1 V)
end
def stI (l v m:UInt8):InsD:=⟨2,0,l,false,v,false,0,0,m,0⟩
def ldI (d l m:UInt8):InsD:=⟨1,d,l,false,0,false,0,0,m,0⟩
section
variable {w:Wd}
theorem zvc {q:OA} {cap:Nat} {l:List InsD} (hl:SlR zE w q l) (hn:l.length<=1000000) :
  Calls PG 27 #[.slice q l.length cap] w fun e w'=>(∃ b:Bool,e = .returned (.bool b))/\Bw w w':=by
 refine qz 35 [.slice q l.length cap] (.s .p (.s .p (.c .p .p))) Tryz.func27 ?_;refine⟨Nat,fun n=>⟨[(0,.slice q l.length cap),(3,i64 (n:Nat))],[]⟩,fun n X=>Bw w X,?_,?_⟩
 ·refine⟨Nat×Nat,fun s=>⟨[(0,.slice q l.length cap),(3,i64 (s.2:Nat)),(6,.slice q l.length cap),(7,i64 l.length),(8,i64 (s.1:Nat))],[]⟩,fun s X=>(s.1<=l.length/\s.2<=s.1)/\Bw w X,fun s=>l.length-s.1,(0,0),
   (cvE rfl rfl),⟨⟨Ga _,UX _⟩,Gc _ _⟩,?_⟩
  rintro⟨k,n⟩ X ⟨⟨hk,hnk⟩,hbX⟩;dsimp only at hk hnk ⊢;refine biE (fun hc=>?_) fun hc=>?_
  ·have hc:(k:Int)<(l.length:Int):=dT hc;have hkl:k<l.length:=by omega
   obtain⟨bp,op,rfl,hlp,hat⟩:=hl.at hkl;refine⟨k,rfl,hkl,zE.enc l[k],zE.len _,zr hbX (hat k hkl),nL hlp hbX.size,zo (X:=X) (v := .agg (zE.enc l[k]).toArray) k55 (zE.len _) rfl (Ql.2 fun u hu=>zE.one _ u hu) fun Y hbY fY sY=>?_⟩;have fY:Y.heap[X.heap.size]?=some (.cells (zE.enc l[k]).toArray 55 (0,0)):=fY;have c0:Y.cell? ⟨X.heap.size,0+0,none⟩=some (u8 l[k].op):=zc (za fY) (i:=0) rfl;have hwY:=zst hbX hbY;have fin1:(k+1<=l.length/\n+1<=k+1)/\Bw w Y:=⟨⟨hkl,by omega⟩,hwY⟩;have fin0:(k+1<=l.length/\n<=k+1)/\Bw w Y:=⟨⟨hkl,by omega⟩,hwY⟩;have lt:l.length-(k+1)<l.length-k:=by omega
   refine⟨_,c0,biE (fun h1=>?_) fun h1=>?_⟩
   ·exact brT (nxI (by omega) (nxI (by omega) ⟨(k+1,n+1),(cvE rfl rfl),fin1,lt⟩))
   ·refine⟨_,c0,biE (fun h2=>?_) fun h2=>?_⟩
    ·refine⟨_,c0,biE (fun h3=>?_) fun h3=>?_⟩
     ·exact nxI (by omega) (nxI (by omega) ⟨(k+1,n+1),(cvE rfl rfl),fin1,lt⟩)
     ·exact nxI (by omega) ⟨(k+1,n),(cvE rfl rfl),fin0,lt⟩
    ·exact brF (nxI (by omega) ⟨(k+1,n),(cvE rfl rfl),fin0,lt⟩)
  ·exact⟨n,(cvE rfl rfl),hbX⟩
 rintro n X hbX;refine biE (fun h1=>?_) fun h1=>?_
 ·exact⟨⟨_,rfl⟩,hbX⟩
 ·exact⟨⟨_,rfl⟩,hbX⟩
end
section
variable {w:Wd} {B:Nat} {pc:List Value} {p:Prg}
theorem zvb (hB:B<=w.heap.size) (hP:PrgX B w pc p) :
  Calls PG 10 #[.agg pc.toArray] w fun e w'=>(∃ b:Bool,e = .returned (.bool b))/\Bw w w':=by
 refine qz 63 [.agg pc.toArray] (.c .p (.s .p (.s .p (.c .p .p)))) Tryz.func10 ?_;obtain⟨L,hL⟩:=nm (w.heap.size);have hpc:=hP.v.size;have hPl:=hP.v.len;obtain⟨q1,k1,q2,k2,q3,k3,q4,k4,hvs,_⟩:=hP.v.h;have hpc1:pc[1]?=some (.slice q1 p.locs.length k1):=by rw [hvs];rfl
 obtain⟨_,⟨p3,c3,h3,xs,hxs,zcO,hxr⟩,_⟩:=hP;have hxl:xs.length=p.threads.length:=by rw [<- hxs,QO]
 have hthr:=hPl.threads;refine⟨Unit,fun _=>⟨[(1,At0 L)],[]⟩,fun _ X=>X.heap[L]?=some (.cells pc.toArray 29 (0,0))/\Bw w X,⟨(),⟨.cons (by rw [hL];rfl) .nil,rfl⟩,by rw [hL];exact zw w _,(zba w _)⟩,?_⟩;rintro _ X ⟨f0,hbX⟩;have c3':X.cell? ⟨L,0+3,none⟩=some (.slice p3 p.threads.length c3):=zc (za f0) (i:=3) (by simpa using h3);have c1':X.cell? ⟨L,0+1,none⟩=some (.slice q1 p.locs.length k1):=zc (za f0) (i:=1) (by simpa using hpc1);refine⟨_,c3',biE (fun h1=>?_) fun h1=>?_⟩
 ·exact brT ⟨⟨_,rfl⟩,hbX⟩
 have h1:¬ (3:Int)<(p.threads.length:Int):=dF h1;refine⟨_,c1',biE (fun h2=>?_) fun h2=>?_⟩
 ·exact⟨⟨_,rfl⟩,hbX⟩
 refine⟨Nat,fun n=>⟨[(3,i64 (n:Nat))],[]⟩,fun n X=>Bw w X,?_,?_⟩
 ·refine⟨_,c3',?_⟩;refine⟨Nat×Nat,fun s=>⟨[(3,i64 (s.2:Nat)),(19,.slice p3 p.threads.length c3),(20,i64 p.threads.length),(21,i64 (s.1:Nat))],[]⟩,fun s Y=>(s.1<=p.threads.length/\s.2<=5*s.1)/\Bw w Y,fun s=>p.threads.length-s.1,(0,0),
   (cvE rfl rfl),⟨⟨Ga _,UX _⟩,hbX⟩,?_⟩
  clear c3' c1' f0 hbX;rintro⟨m,n⟩ Y ⟨⟨hm,hnm⟩,hbY⟩;dsimp only at hm hnm ⊢;refine biE (fun hc=>?_) fun hc=>?_
  ·have hc:(m:Int)<(p.threads.length:Int):=dT hc;have hmt:m<p.threads.length:=by omega
   have hmx:m<xs.length:=by omega
   obtain⟨b3,o3,hp3,hb3,hat3⟩:=zd8 (zcO.below (hbY.mono hB)) hmx;have hB2:b3<Y.heap.size:=nL hb3 (UO hB hbY.size);have e3:some (Value.slice p3 p.threads.length c3)=some (Value.slice (some ⟨b3,o3,none⟩) p.threads.length c3):=by rw [hp3]
   subst hp3;refine⟨m,rfl,hmt,zkP xs[m],by have:=zc (hat3 m hmx) (i:=0) (v:=zkP xs[m]) rfl;exact this,?_⟩;obtain⟨hrm,hrb⟩:=hxr _ (gM hmx);have hsl:SlR zE Y xs[m].2.1 xs[m].1:=(hrm.below (hbY.mono hB)).slr (UO hB hbY.size);obtain⟨l,hl⟩:=nm (xs[m].1);obtain⟨ql,hql⟩:=nm (xs[m].2.1);obtain⟨cl,hcl⟩:=nm (xs[m].2.2);have hv:zkP xs[m] = .slice ql l.length cl:=by rw [hl,hql,hcl];rfl
   rw [<- hl,<- hql] at hsl;rw [hv];refine biE (fun h5=>?_) fun h5=>?_
   ·exact brT ⟨⟨_,rfl⟩,hbY⟩
   have h5:¬ (5:Int)<(l.length:Int):=dF h5;have hl5:l.length<=5:=by omega
   refine cmo (zvc hsl (by omega)) ?_;rintro e Z ⟨⟨b,rfl⟩,hbZ⟩;have hwZ:=zst hbY hbZ;have hslZ:=hsl.below hbZ;refine biE (fun h6=>?_) fun h6=>?_
   ·exact⟨⟨_,rfl⟩,hwZ⟩
   refine⟨Nat×Nat,fun s=>⟨[(3,i64 (s.2:Nat)),(19,.slice (some ⟨b3,o3,none⟩) p.threads.length c3),(20,i64 p.threads.length),(21,i64 (m:Nat)),(33,.slice ql l.length cl),(34,i64 l.length),(35,i64 (s.1:Nat))],[]⟩,fun s V=>(s.1<=l.length/\s.2<=5*m+s.1)/\Bw Z V,fun s=>l.length-s.1,(0,n),
    (cvE rfl rfl),⟨⟨Ga _,by show n<=5*m+0;omega⟩,Gc _ _⟩,?_⟩
   rintro⟨k,n2⟩ V ⟨⟨hk,hn2⟩,hbV⟩;dsimp only at hk hn2 ⊢;refine biE (fun hc=>?_) fun hc=>?_
   ·have hc:(k:Int)<(l.length:Int):=dT hc;have hkl:k<l.length:=(by omega);obtain⟨bp,op,hqe,hlp,hat⟩:=hslZ.at hkl;subst hqe;refine⟨k,rfl,hkl,zE.enc l[k],zE.len _,zr hbV (hat k hkl),nL hlp hbV.size,zo (X:=V) (v := .agg (zE.enc l[k]).toArray) k55 (zE.len _) rfl (Ql.2 fun u hu=>zE.one _ u hu) fun U hbU fU sU=>?_⟩;have fU:U.heap[V.heap.size]?=some (.cells (zE.enc l[k]).toArray 55 (0,0)):=fU;have c0:U.cell? ⟨V.heap.size,0+0,none⟩=some (u8 l[k].op):=zc (za fU) (i:=0) rfl;have hZU:=zst hbV hbU;have fin1:(k+1<=l.length/\n2+1<=5*m+(k+1))/\Bw Z U:=⟨⟨hkl,by omega⟩,hZU⟩;have fin0:(k+1<=l.length/\n2<=5*m+(k+1))/\Bw Z U:=⟨⟨hkl,by omega⟩,hZU⟩;have lt:l.length-(k+1)<l.length-k:=(by omega);refine⟨_,c0,biE (fun h7=>?_) fun h7=>?_⟩
    ·exact brT (brT (nxI (by omega) (nxI (by omega) ⟨(k+1,n2+1),(cvE rfl rfl),fin1,lt⟩)))
    ·refine⟨_,c0,biE (fun h8=>?_) fun h8=>?_⟩
     ·exact brT (nxI (by omega) (nxI (by omega) ⟨(k+1,n2+1),(cvE rfl rfl),fin1,lt⟩))
     ·refine⟨_,c0,biE (fun h9=>?_) fun h9=>?_⟩
      ·refine⟨_,c0,biE (fun h=>?_) fun h=>?_⟩
       ·exact nxI (by omega) (nxI (by omega) ⟨(k+1,n2+1),(cvE rfl rfl),fin1,lt⟩)
       ·exact nxI (by omega) ⟨(k+1,n2),(cvE rfl rfl),fin0,lt⟩
      ·exact brF (nxI (by omega) ⟨(k+1,n2),(cvE rfl rfl),fin0,lt⟩)
   ·exact nxI (by omega) ⟨(m+1,n2),(cvE rfl rfl),⟨⟨hmt,by show n2<=5*(m+1);omega⟩,(zst hwZ hbV)⟩,zdc (by omega)⟩
  ·exact⟨n,(cvE rfl rfl),hbY⟩
 rintro n Y hbY;exact⟨⟨_,rfl⟩,hbY⟩
end
section
variable {r:RelD} {w:Wd}
theorem zsI {b s:Nat} (f:w.heap[b]?=some (.cells (zf r).toArray 39 (0,0))) (hr:zI r.to) (hs:s<2^64) (h48:∀ i∈els s,i<48) (hT:Tz64M w) :
  CB 89 #[At0 b,s64 s] w (s64 (zdM r.to s)):=by
 refine zJ 32 [At0 b,s64 s] Tryz.func89 ?_;refine cmo (zbk hs hT) ?_;rintro e X ⟨rfl,hbX⟩;refine⟨Nat×Nat,fun q=>⟨[(0,At0 b),(1,s64 q.2),(5,s64 q.1),(6,i64 ((els q.2).headD 0:Nat)),(7,.bool (!(els q.2).isEmpty))],[]⟩,
  fun q Y=>zdM r.to s=(els q.2).foldl (fun t a=>t|||r.to a) q.1/\(q.1<2^64/\q.2<2^64/\∀ i∈els q.2,i<48)/\Bw w Y,fun q=>q.2,(0,s),
  (cvE rfl rfl),⟨rfl,⟨(by decide:0<2^64),hs,h48⟩,hbX⟩,?_⟩
 clear hbX X;rintro⟨t,q⟩ X ⟨he,⟨ht,hq,h48⟩,hbX⟩;dsimp only at he ht hq h48 ⊢;refine biE (fun hc=>?_) fun hc=>?_
 ·have h0:=zfB hq hc;obtain⟨e1,e2,_,e3⟩:=jY h0 hq;have hd:=(zb8 h0 hq).1;have hc48:ctz q<48:=h48 _ (by rw [e1];exact KA);rw [hd];have fX:=zb hbX f;refine⟨ctz q,rfl,hc48,_,zaS fX hc48,_,zaq ht (hr _ hc48),((q-1:Nat):Int),(w64 (a:=(q:Int)-1) (by omega)).trans (by omega),((qE q:Nat):Int),j6 (a:=q) (b:=q-1) hq (by omega),cmo (zbk (s:=qE q) (by omega) (hT.below hbX)) ?_⟩;rintro e Y ⟨rfl,hbY⟩;refine⟨(t|||r.to (ctz q),qE q),(cvE rfl rfl),⟨?_,⟨KZ ht (hr _ hc48),by omega,fun i hi=>h48 i (by rw [e1];exact JY _ hi)⟩,(zst hbX hbY)⟩,e2⟩;rw [he,e1];rfl
 ·have hc:(els q).isEmpty=true:=by simpa using hc
  have:=zdk hq hc;subst this;refine⟨?_,hbX⟩;rw [he,zau];rfl
theorem zgm {ra rb:RelD} {ba bb g:Nat} {caps:Array Value} {row:Nat->Nat} (fa:w.heap[ba]?=some (.cells (zf ra).toArray 39 (0,0))) (fb:w.heap[bb]?=some (.cells (zf rb).toArray 39 (0,0)))
  (ha:zI ra.to) (hb:zI rb.to) (hok:jZ (sg 0) g=true)
  (zcO:ra.n=rb.n->okR ra=true->okR rb=true->∀ i X,i<ra.n.toNat->Bw w X->Calls PG g (i64 (i:Nat)::caps.toList).toArray X fun e Y=>e = .returned (s64 (row i))/\Bw X Y) :
  CB 35 #[At0 ba,At0 bb,.func (.func g) #[] caps] w (.tuple #[.agg (zf (comb ra rb row).1).toArray,i64 (comb ra rb row).2]):=by
 refine qz 38 [At0 ba,At0 bb,.func (.func g) #[] caps] (.c .p (.s .p .p)) Tryz.func35 ?_;obtain⟨L,hL⟩:=nm (w.heap.size);refine⟨Unit,fun _=>⟨[(0,At0 ba),(1,At0 bb),(2,.func (.func g) #[] caps),(6,At0 L)],[]⟩,fun _ X=>X.heap[L]?=some (.cells (zf zz).toArray 39 (0,0))/\Bw w X,⟨(),⟨.cons rfl (.cons rfl (.cons rfl (.cons (by rw [hL];rfl) .nil))),rfl⟩,by rw [hL];exact zw w _,(zba w _)⟩,?_⟩;rintro _ X ⟨f0,hbX⟩;have hd:Bw X X.drew:=(Gc _ X).drew;have hbD:=zst hbX hd;have no:∀ {Y:Wd},Y.heap[L]?=some (.cells (zf zz).toArray 39 (0,0))->Bw w Y->(ra.n=rb.n&&(okR ra&&okR rb))=false->∀ {K:Wd->Prop},(∀ Z,Z.heap[L]?=some (.cells (zf (comb ra rb row).1).toArray 39 (0,0))->(comb ra rb row).2=2->Bw w Z->K Z)->SatR ((storeVar 39 ⟨L,0,none⟩ (.agg (zf zz).toArray)).run PG Y) fun _ w'=>K w' :=
  fun {Y} f b h {K} k=>by
   have e:comb ra rb row=(zz,2):=by unfold comb;rw [h];rfl
   exact zt (v := .agg (zf zz).toArray) k39 f rfl rfl (zF _) (k _ (by rw [e];exact zn f) (by rw [e]) (zl b (by omega) _))
 refine DrawE.ord [] [0,1,2,3,4,5,6,7,8,9,10,11,12,13,14,15,16,17,18,19,20,21,22] (by kernel_rfl) ?_;have hz:∀ {Y:Wd},Bw w Y->∀ {K:Value->Prop},K (.agg (zf zz).toArray)->K (.agg (zf zz).toArray):=fun _ _ h=>h;refine⟨_,zc (za (zb hbD fa)) (i:=0) rfl,_,zc (za (zb hbD fb)) (i:=0) rfl,biE (fun h=>?_) fun h=>?_⟩
 ·have h:ra.n≠rb.n:=fun e=>by
   have h:(!decide (ra.n=rb.n))=true:=h;rw [Ut e] at h;cases h
  refine brT (brT ⟨zf zz,rfl,no (hdr f0) hbD (by rw [Ui h];rfl) fun Z fZ e2 bZ=>⟨zf (comb ra rb row).1,zh _,za fZ,?_,bZ⟩⟩);rw [e2];rfl
 have h:ra.n=rb.n:=by
  have h:(!decide (ra.n=rb.n))=false:=h;simpa using h
 refine⟨zf ra,zh _,za (zb hbD fa),hlt (zb hbD fa),cmo (j4 ha) ?_⟩;rintro e Y ⟨rfl,hbY⟩;refine⟨hbY,?_⟩;have hbwY:=zst hbD hbY;have f0Y:=zb hbY (hdr f0);refine biE (fun h1=>?_) fun h1=>?_
 ·have h1:okR ra=false:=by
   have h1:(!okR ra)=true:=h1;simpa using h1
  refine brT ⟨zf zz,rfl,no f0Y hbwY (by rw [h1,Uk,Uj]) fun Z fZ e2 bZ=>⟨zf (comb ra rb row).1,zh _,za fZ,?_,bZ⟩⟩;rw [e2];rfl
 have h1:okR ra=true:=by
  have h1:(!okR ra)=false:=h1;simpa using h1
 refine⟨zf rb,zh _,za (zb hbwY fb),hlt (zb hbwY fb),cmo (j4 hb) ?_⟩;rintro e V ⟨rfl,hbV⟩;refine⟨hbV,?_⟩;have hbwV:=zst hbwY hbV;have f0V:=zb hbV f0Y;refine biE (fun h2=>?_) fun h2=>?_
 ·have h2:okR rb=false:=by
   have h2:(!okR rb)=true:=h2;simpa using h2
  refine⟨zf zz,rfl,no f0V hbwV (by rw [h2,Uj,Uj]) fun Z fZ e2 bZ=>⟨zf (comb ra rb row).1,zh _,za fZ,?_,bZ⟩⟩;rw [e2];rfl
 have h2:okR rb=true:=by
  have h2:(!okR rb)=false:=h2;simpa using h2
 obtain⟨p0,p48,_⟩:=jt h1;have e:comb ra rb row=(jL ra.n.toNat row,0):=by unfold comb;rw [h1,h2,Ut h];rfl
 rw [e];have hn:ra.n=(ra.n.toNat:Int):=by omega
 refine⟨i64 (ra.n.toNat:Nat),by rw [<- hn];exact zc (za (zb hbwV fa)) (i:=0) rfl,cmo (zku (w:=V) (n:=ra.n.toNat) (by omega) hok (fun i Z hi hbZ=>zcO h h1 h2 i Z hi ((zst hbwV hbZ)))) ?_⟩;rintro e Z ⟨rfl,hbZ⟩;have f0Z:=zb hbZ f0V;exact zt (v := .agg (zf (jL ra.n.toNat row)).toArray) k39 f0Z rfl rfl (zF _) ⟨zf (jL ra.n.toNat row),zh _,za (zn f0Z),rfl,zl ((zst hbwV hbZ)) (by omega) _⟩
end
section
variable {ra rb:RelD} {w:Wd}
theorem zrL {ba bb i:Nat} (fa:w.heap[ba]?=some (.cells (zf ra).toArray 39 (0,0))) (fb:w.heap[bb]?=some (.cells (zf rb).toArray 39 (0,0))) (ha:zI ra.to) (hb:zI rb.to) (hi:i<48) :
  CB 36 (i64 (i:Nat)::[At0 ba,At0 bb]).toArray w (s64 (ra.to i|||rb.to i)):=by
 refine zJ 14 (i64 (i:Nat)::[At0 ba,At0 bb]) Tryz.func36 ?_;refine DrawE.ord [] [0,1,2,3,4,5,6,7,8,9] (by kernel_rfl) ?_;have hd:Bw w w.drew:=(Gc _ w).drew;exact⟨i,rfl,hi,_,zaS (hdr fa) hi,i,rfl,hi,_,zaS (hdr fb) hi,_,zaq (ha i hi) (hb i hi),rfl,hd⟩
theorem zty (ha:zI ra.to) (hb:zI rb.to):CB 16 #[.agg (zf ra).toArray,.agg (zf rb).toArray] w (.tuple #[.agg (zf (zar ra rb).1).toArray,i64 (zar ra rb).2]):=by
 refine qz 10 [.agg (zf ra).toArray,.agg (zf rb).toArray] (.c .p .p) Tryz.func16 ?_;obtain⟨L,hL⟩:=nm (w.heap.size);refine⟨Unit,fun _=>⟨[(2,At0 L),(3,At0 (L+1)),(4,At0 (L+2)),(5,i64 0)],[]⟩,fun _ X=>X.heap[L]?=some (.cells (zf ra).toArray 39 (0,0))/\X.heap[L+1]?=some (.cells (zf rb).toArray 39 (0,0))/\X.heap[L+2]?=some (.cells (zf zz).toArray 39 (0,0))/\Bw w X,?_,?_⟩
 ·have s1:=wz w (.cells (zf ra).toArray 39);have s2:=wz (w.alloc (.cells (zf ra).toArray 39)) (.cells (zf rb).toArray 39);have h2:=zw (w.alloc (.cells (zf ra).toArray 39)) (.cells (zf rb).toArray 39);have h3:=zw ((w.alloc (.cells (zf ra).toArray 39)).alloc (.cells (zf rb).toArray 39)) (.cells (zf zz).toArray 39);rw [s1] at s2 h2;rw [s2] at h3;refine⟨(),⟨.cons (by rw [hL];rfl) (.cons (by rw [hL,<- s1];rfl) (.cons (by rw [hL,<- s2];rfl) (.cons rfl .nil))),rfl⟩,?_,?_,?_,?_⟩
  ·rw [hL];exact qP _ (qP _ (zw w _))
  ·rw [hL];exact qP _ h2
  ·rw [hL];exact h3
  ·exact (((zba w _)).alloc (by simp) _).alloc (by simp;omega) _
 rintro _ X ⟨f0,f1,f2,hbX⟩;refine cmo (zgm (row:=fun i=>ra.to i|||rb.to i) f0 f1 ha hb (by kernel_rfl) (fun e h1 h2 i Y hi hbY=>?_)) ?_
 ·have h48:=(jt h1).2.1;exact zrL (zb hbY f0) (zb hbY f1) ha hb (by omega)
 rintro e Y ⟨rfl,hbY⟩;exact zt (v := .agg (zf (zar ra rb).1).toArray) k39 (zb hbY f2) rfl rfl (zF _) ⟨zf (zar ra rb).1,zh _,za (zn (zb hbY f2)),rfl,zl ((zst hbX hbY)) (by omega) _⟩
theorem ztG {ba bb i:Nat} (fa:w.heap[ba]?=some (.cells (zf ra).toArray 39 (0,0))) (fb:w.heap[bb]?=some (.cells (zf rb).toArray 39 (0,0))) (ha:zI ra.to) (hb:zI rb.to) (hi:i<48) :
  CB 90 (i64 (i:Nat)::[At0 ba,At0 bb]).toArray w (s64 (ra.to i&&&rb.to i)):=by
 refine zJ 14 (i64 (i:Nat)::[At0 ba,At0 bb]) Tryz.func90 ?_;refine DrawE.ord [] [0,1,2,3,4,5,6,7,8,9] (by kernel_rfl) ?_;have hd:Bw w w.drew:=(Gc _ w).drew;exact⟨i,rfl,hi,_,zaS (hdr fa) hi,i,rfl,hi,_,zaS (hdr fb) hi,_,j6 (ha i hi) (hb i hi),rfl,hd⟩
theorem zrX (ha:zI ra.to) (hb:zI rb.to):CB 54 #[.agg (zf ra).toArray,.agg (zf rb).toArray] w (.tuple #[.agg (zf (zaP ra rb).1).toArray,i64 (zaP ra rb).2]):=by
 refine qz 10 [.agg (zf ra).toArray,.agg (zf rb).toArray] (.c .p .p) Tryz.func54 ?_;obtain⟨L,hL⟩:=nm (w.heap.size);refine⟨Unit,fun _=>⟨[(2,At0 L),(3,At0 (L+1)),(4,At0 (L+2)),(5,i64 0)],[]⟩,fun _ X=>X.heap[L]?=some (.cells (zf ra).toArray 39 (0,0))/\X.heap[L+1]?=some (.cells (zf rb).toArray 39 (0,0))/\X.heap[L+2]?=some (.cells (zf zz).toArray 39 (0,0))/\Bw w X,?_,?_⟩
 ·have s1:=wz w (.cells (zf ra).toArray 39);have s2:=wz (w.alloc (.cells (zf ra).toArray 39)) (.cells (zf rb).toArray 39);have h2:=zw (w.alloc (.cells (zf ra).toArray 39)) (.cells (zf rb).toArray 39);have h3:=zw ((w.alloc (.cells (zf ra).toArray 39)).alloc (.cells (zf rb).toArray 39)) (.cells (zf zz).toArray 39);rw [s1] at s2 h2;rw [s2] at h3;refine⟨(),⟨.cons (by rw [hL];rfl) (.cons (by rw [hL,<- s1];rfl) (.cons (by rw [hL,<- s2];rfl) (.cons rfl .nil))),rfl⟩,?_,?_,?_,?_⟩
  ·rw [hL];exact qP _ (qP _ (zw w _))
  ·rw [hL];exact qP _ h2
  ·rw [hL];exact h3
  ·exact (((zba w _)).alloc (by simp) _).alloc (by simp;omega) _
 rintro _ X ⟨f0,f1,f2,hbX⟩;refine cmo (zgm (row:=fun i=>ra.to i&&&rb.to i) f0 f1 ha hb (by kernel_rfl) (fun e h1 h2 i Y hi hbY=>?_)) ?_
 ·have h48:=(jt h1).2.1;exact ztG (zb hbY f0) (zb hbY f1) ha hb (by omega)
 rintro e Y ⟨rfl,hbY⟩;exact zt (v := .agg (zf (zaP ra rb).1).toArray) k39 (zb hbY f2) rfl rfl (zF _) ⟨zf (zaP ra rb).1,zh _,za (zn (zb hbY f2)),rfl,zl ((zst hbX hbY)) (by omega) _⟩
theorem ztz {ba bb i:Nat} (fa:w.heap[ba]?=some (.cells (zf ra).toArray 39 (0,0))) (fb:w.heap[bb]?=some (.cells (zf rb).toArray 39 (0,0))) (ha:zI ra.to) (hb:zI rb.to) (hi:i<48) (h48:∀ j∈els (ra.to i),j<48) (hT:Tz64M w) :
  CB 88 (i64 (i:Nat)::[At0 bb,At0 ba]).toArray w (s64 (zdM rb.to (ra.to i))):=by
 refine zJ 10 (i64 (i:Nat)::[At0 bb,At0 ba]) Tryz.func88 ?_;refine⟨i,rfl,hi,_,zaS fa hi,cmo (zsI fb hb (ha i hi) h48 hT) ?_⟩;rintro e Y ⟨rfl,hbY⟩;exact⟨rfl,hbY⟩
theorem zcB (ha:zI ra.to) (hb:zI rb.to) (hT:Tz64M w):CB 53 #[.agg (zf ra).toArray,.agg (zf rb).toArray] w (.tuple #[.agg (zf (jj ra rb).1).toArray,i64 (jj ra rb).2]):=by
 refine qz 10 [.agg (zf ra).toArray,.agg (zf rb).toArray] (.c .p .p) Tryz.func53 ?_;obtain⟨L,hL⟩:=nm (w.heap.size);refine⟨Unit,fun _=>⟨[(2,At0 L),(3,At0 (L+1)),(4,At0 (L+2)),(5,i64 0)],[]⟩,fun _ X=>X.heap[L]?=some (.cells (zf ra).toArray 39 (0,0))/\X.heap[L+1]?=some (.cells (zf rb).toArray 39 (0,0))/\X.heap[L+2]?=some (.cells (zf zz).toArray 39 (0,0))/\Bw w X,?_,?_⟩
 ·have s1:=wz w (.cells (zf ra).toArray 39);have s2:=wz (w.alloc (.cells (zf ra).toArray 39)) (.cells (zf rb).toArray 39);have h2:=zw (w.alloc (.cells (zf ra).toArray 39)) (.cells (zf rb).toArray 39);have h3:=zw ((w.alloc (.cells (zf ra).toArray 39)).alloc (.cells (zf rb).toArray 39)) (.cells (zf zz).toArray 39);rw [s1] at s2 h2;rw [s2] at h3;refine⟨(),⟨.cons (by rw [hL];rfl) (.cons (by rw [hL,<- s1];rfl) (.cons (by rw [hL,<- s2];rfl) (.cons rfl .nil))),rfl⟩,?_,?_,?_,?_⟩
  ·rw [hL];exact qP _ (qP _ (zw w _))
  ·rw [hL];exact qP _ h2
  ·rw [hL];exact h3
  ·exact (((zba w _)).alloc (by simp) _).alloc (by simp;omega) _
 rintro _ X ⟨f0,f1,f2,hbX⟩;refine cmo (zgm (row:=fun i=>zdM rb.to (ra.to i)) f0 f1 ha hb (by kernel_rfl) (fun e h1 h2 i Y hi hbY=>?_)) ?_
 ·have h48:=(jt h1).2.1;exact ztz (zb hbY f0) (zb hbY f1) ha hb (by omega) (fun j hj=>(zka h1 ha (by omega) j hj).2) ((hT.below hbX).below hbY)
 rintro e Y ⟨rfl,hbY⟩;exact zt (v := .agg (zf (jj ra rb).1).toArray) k39 (zb hbY f2) rfl rfl (zF _) ⟨zf (jj ra rb).1,zh _,za (zn (zb hbY f2)),rfl,zl ((zst hbX hbY)) (by omega) _⟩
theorem zvG {ba i s:Nat} (fa:w.heap[ba]?=some (.cells #[s64 s] 36 (0,0))) (hs:s<2^64) (hi:i<48) :
  CB 161 (i64 (i:Nat)::[At0 ba]).toArray w (s64 (s&&&2^i)):=by
 refine zJ 8 (i64 (i:Nat)::[At0 ba]) Tryz.func161 ?_;exact DrawE.ord [] [0,1,2,3,4] (by kernel_rfl) ⟨_,zc (za (hdr fa)) (i:=0) rfl,by omega,_,j5 (e:=i) (by omega),_,j6 hs (qa (by omega)),rfl,(Gc _ w).drew⟩
theorem zvF {n s:Nat} (hn:n<=48) (hs:s<2^64):CB 119 #[i64 n,s64 s] w (.agg (zf (idR n s)).toArray):=by
 refine qz 15 [i64 n,s64 s] (.c .p (.s .p .p)) Tryz.func119 ?_;obtain⟨L,hL⟩:=nm (w.heap.size);refine⟨Unit,fun _=>⟨[(0,i64 n),(3,At0 L),(4,At0 (L+1))],[]⟩,fun _ X=>X.heap[L]?=some (.cells #[s64 s] 36 (0,0))/\X.heap[L+1]?=some (.cells (zf zz).toArray 39 (0,0))/\Bw w X,?_,?_⟩
 ·have s1:=wz w (.cells #[s64 s] 36);have h2:=zw (w.alloc (.cells #[s64 s] 36)) (.cells (zf zz).toArray 39);rw [s1] at h2;refine⟨(),⟨.cons rfl (.cons (by rw [hL];rfl) (.cons (by rw [hL,<- s1];rfl) .nil)),rfl⟩,?_,?_,?_⟩
  ·rw [hL];exact qP _ (zw w _)
  ·rw [hL];exact h2
  ·exact ((zba w _)).alloc (by simp) _
 rintro _ X ⟨f0,f1,hbX⟩;refine brN (Ui (by omega)) (brN (Ui (by omega)) (cmo (zku (w:=X) (n:=n) (row:=fun a=>s&&&2^a) hn (by kernel_rfl) (fun i Z hi hbZ=>zvG (zb hbZ f0) hs (by omega))) ?_));rintro e Z ⟨rfl,hbZ⟩;have f1Z:=zb hbZ f1;exact zt (v := .agg (zf (idR n s)).toArray) k39 f1Z rfl rfl (zF _) ⟨zf (idR n s),zh _,za (zn f1Z),rfl,zl ((zst hbX hbZ)) (by omega) _⟩
theorem zva (ha:zI ra.to):CB 91 #[.agg (zf ra).toArray] w (s64 (zjt ra)):=by
 refine zJ 24 [.agg (zf ra).toArray] Tryz.func91 ?_;have f0:=zw w (.cells (zf ra).toArray 39);have hb:Bw w (w.alloc (.cells (zf ra).toArray 39)):=zba w _;refine⟨zf ra,zh _,za f0,hlt f0,cmo (j4 ha) ?_⟩;rintro e X ⟨rfl,hbX⟩;have hbw:=zst hb hbX;have fX:=zb hbX f0;refine biE (fun h=>?_) fun h=>?_
 ·have h:okR ra=false:=by
   have h:(!okR ra)=true:=h;simpa using h
  exact⟨by unfold zjt;rw [h];rfl,hbw⟩
 have h:okR ra=true:=by
  have h:(!okR ra)=false:=h;simpa using h
 obtain⟨p0,p48,_⟩:=jt h;obtain⟨n,hn⟩:∃ n:Nat,ra.n=n:=⟨ra.n.toNat,by omega⟩;refine⟨i64 n,by rw [<- hn];exact zc (za fX) (i:=0) rfl,?_⟩;have e0:zjt ra=(List.range n).foldl (fun s a=>if ra.to a=0 then s else s|||2^a) 0:=by unfold zjt;rw [Gq h,hn];rfl
 refine⟨Nat,fun k=>⟨[(1,.pointer (some ⟨w.heap.size,0,none⟩)),(3,s64 ((List.range k).foldl (fun s a=>if ra.to a=0 then s else s|||2^a) 0)),(9,i64 n),(10,i64 (k:Nat))],[]⟩,fun k Y=>X=Y/\k<=n/\(List.range k).foldl (fun s a=>if ra.to a=0 then s else s|||2^a) 0<2^64,fun k=>n-k,0,
  (cvE rfl rfl),⟨rfl,Ga _,(by decide:0<2^64)⟩,?_⟩
 rintro k _ ⟨rfl,hk,hlt64⟩;refine biE (fun hc=>?_) fun hc=>?_
 ·have hc:(k:Int)<(n:Int):=dT hc;have hkn:k<n:=by omega
  have step:(List.range (k+1)).foldl (fun s a=>if ra.to a=0 then s else s|||2^a) 0=if ra.to k=0 then (List.range k).foldl (fun s a=>if ra.to a=0 then s else s|||2^a) 0 else (List.range k).foldl (fun s a=>if ra.to a=0 then s else s|||2^a) 0|||2^k:=by
   rw [QX,KU];rfl
  refine⟨k,rfl,by omega,?_⟩;refine⟨_,zaS fX (by omega),biE (fun h1=>?_) fun h1=>?_⟩
  ·have h1:¬ ra.to k=0:=fun e=>by
    have h1:(!decide (((ra.to k:Nat):Int)=0))=true:=h1;rw [e] at h1;exact Gr h1 (by decide)
   rw [Gp h1] at step;exact⟨by omega,_,j5 (e:=k) (by omega),_,zaq hlt64 (qa (by omega)),nxI (by omega) ⟨k+1,⟨.cons rfl (.cons (by rw [step];rfl) (.cons rfl (.cons rfl .nil))),rfl⟩,⟨rfl,hkn,by rw [step];exact KZ hlt64 (qa (by omega))⟩,zdc (by omega)⟩⟩
  ·have h1:ra.to k=0:=by
    have h1:(!decide (((ra.to k:Nat):Int)=0))=false:=h1;have h2:decide (((ra.to k:Nat):Int)=0)=true:=(by simpa using h1);exact UA (dT h2)
   rw [Gq h1] at step;exact nxI (by omega) ⟨k+1,⟨.cons rfl (.cons (by rw [step];rfl) (.cons rfl (.cons rfl .nil))),rfl⟩,⟨rfl,hkn,by rw [step];exact hlt64⟩,zdc (by omega)⟩
 ·have hc:¬ (k:Int)<(n:Int):=dF hc;obtain rfl:k=n:=by omega
  exact⟨by rw [e0];rfl,hbw⟩
theorem ztE (ha:zI ra.to):CB 55 #[.agg (zf ra).toArray] w (.bool (zbt ra)):=by
 refine zJ 10 [.agg (zf ra).toArray] Tryz.func55 ?_;have f0:=zw w (.cells (zf ra).toArray 39);have hb:Bw w (w.alloc (.cells (zf ra).toArray 39)):=zba w _;refine⟨zf ra,zh _,za f0,hlt f0,cmo (j4 ha) ?_⟩;rintro e X ⟨rfl,hbX⟩;have hbw:=zst hb hbX;have fX:=zb hbX f0;refine biE (fun h=>?_) fun h=>?_
 ·have h:okR ra=true:=h;refine⟨zf ra,zh _,za fX,hlt fX,cmo (zva ha) ?_⟩;rintro e Y ⟨rfl,hbY⟩;refine⟨rb ?_,(zst hbw hbY)⟩;unfold zbt;rw [h,Uz];exact QH.2 Int.ofNat_inj
 ·have h:okR ra=false:=h;exact⟨rb (by unfold zbt;rw [h];rfl),hbw⟩
end
theorem zo1 {X:Wd} {L:Nat} {r:RelD} (h:z9 X L r):∀ i,i<48->X.cell? ⟨L,0+1+i*1,none⟩=some (s64 (r.to i)):=by
 have hR:RelAt X L 0 39 [] [] r:=⟨rfl,by simpa using h⟩;exact fun i hi=>hR.cell hi
theorem zts {s b:Nat}:decide ((((s/2^b&&&1:Nat):Nat):Int)=1)=s.testBit b:=by
 rw [zkw]
 cases s.testBit b <;> rfl
def jT (n:Nat) (p:Nat->Nat->Bool) (a k:Nat):Nat->Nat:=fun i=>if i<a then zfV n (p i) else if i=a then zfV k (p a) else 0
theorem zk2 (n:Nat) (p:Nat->Nat->Bool) (a k:Nat):jT n p a k a=zfV k (p a):=by
 unfold jT;rw [Gp (by omega),Gq rfl]
theorem zoY {n:Nat} {p:Nat->Nat->Bool} {a k:Nat} (h:p a k=true):upd (jT n p a k) a (jT n p a k a|||2^k)=jT n p a (k+1):=by
 funext i;by_cases hi:i=a
 ·subst hi;rw [zL,zk2,zk2,zd7,Gq h]
 ·rw [qk _ _ hi];unfold jT;rw [Gp hi,Gp hi]
theorem zmF {n:Nat} {p:Nat->Nat->Bool} {a k:Nat} (h:p a k=false):jT n p a k=jT n p a (k+1):=by
 have e:zfV (k+1) (p a)=zfV k (p a):=by rw [zd7,Gp (by rw [h];decide)]
 funext i;unfold jT;rw [e]
theorem zmG (n:Nat) (p:Nat->Nat->Bool) (a:Nat):jT n p a n=jT n p (a+1) 0:=by
 funext i;unfold jT;by_cases h1:i<a
 ·rw [Gq h1,Gq (by omega)]
 ·by_cases h2:i=a
  ·subst h2;rw [Gp h1,Gq rfl,Gq (by omega)]
  ·rw [Gp h1,Gp h2,Gp (by omega)]
   split
   ·rfl
   ·rfl
theorem zmE (n:Nat) (p:Nat->Nat->Bool):jT n p 0 0=fun _=>0:=by
 funext i;unfold jT;rw [Gp (by omega)]
 split <;> rfl
theorem zoZ (n:Nat) (p:Nat->Nat->Bool):jT n p n 0=(zb3 n p).to:=by
 funext i;unfold jT zb3 jL;show _=if i<n then _ else 0
 by_cases h:i<n
 ·rw [Gq h,Gq h]
 ·rw [Gp h,Gp h]
  split <;> rfl
theorem zoX {n:Nat} {p:Nat->Nat->Bool} {a k:Nat} (hn:n<=64) (hk:k<=64):zI (jT n p a k):=fun i _=>by
 unfold jT
 split
 ·exact ze7 _ n hn
 ·split
  ·exact ze7 _ k hk
  ·decide
section
variable {w:Wd}
theorem z3 {b o a d:Nat} {r:RelD} (hc:∀ i,i<48->w.cell? ⟨b,o+1+i*1,none⟩=some (s64 (r.to i))) (hr:zI r.to) (ha:a<48) (hd:d<48) :
  Calls PG 49 #[.pointer (some ⟨b,o,none⟩),i64 (a:Nat),i64 (d:Nat)] w fun e w'=>e = .returned (.bool (zg r a d))/\w=w':=by
 refine zJ 17 [.pointer (some ⟨b,o,none⟩),i64 (a:Nat),i64 (d:Nat)] Tryz.func49 ?_;exact⟨a,rfl,ha,_,hc a ha,by omega,_,zgV (a:=r.to a) (k:=d) (by omega),_,j6 (a:=r.to a/2^d) (b:=1) (KF (Nat.div_le_self _ _) (hr a ha)) (by decide),rb zts,rfl⟩
theorem zfL {e:Ev}:Calls PG 87 #[.agg (evE.enc e).toArray] w fun r w'=>r = .returned (.bool (decide (e.k=1)||decide (e.k=2)))/\Bw w w':=by
 refine zJ 11 [.agg (evE.enc e).toArray] Tryz.func87 ?_;have f:=zw w (.cells (evE.enc e).toArray 49);have hb:Bw w (w.alloc (.cells (evE.enc e).toArray 49)):=zba w _;refine⟨u8 e.k,zc (za f) (i:=1) rfl,biE (fun h=>?_) fun h=>?_⟩
 ·have h:e.k=1:=qA.1 (dT h);exact⟨rb (by rw [Ut h];rfl),hb⟩
 ·have h:¬ e.k=1:=fun e2=>(dF h) (by rw [e2];rfl);refine⟨u8 e.k,zc (za f) (i:=1) rfl,rb ?_,hb⟩;rw [Ui h,Uw];exact QH.2 (qA (x:=e.k) (y:=2))
theorem zmP {n g:Nat} {caps:Array Value} {p:Nat->Nat->Bool} (hn:n<=48) (hok:jZ (sg 0) g=true)
  (hp:∀ a d X,a<n->d<n->Bw w X->Calls PG g (i64 (a:Nat)::i64 (d:Nat)::caps.toList).toArray X fun e Y=>e = .returned (.bool (p a d))/\Bw X Y) :
  CB 47 #[i64 n,.func (.func g) #[] caps] w (.agg (zf (zb3 n p)).toArray):=by
 refine qz 34 [i64 n,.func (.func g) #[] caps] (.c .p (.c .p (.c .p .p))) Tryz.func47 ?_;obtain⟨L,hL⟩:=nm (w.heap.size);refine⟨Unit,fun _=>⟨[(0,i64 n),(1,.func (.func g) #[] caps),(4,At0 L)],[]⟩,fun _ X=>z9 X L zz/\X.heap.size=L+1/\Bw w X,?_,?_⟩
 ·exact⟨(),⟨.cons rfl (.cons rfl (.cons (by rw [hL];rfl) .nil)),rfl⟩,by rw [hL];exact zw w _,by rw [hL];exact wz _ _,(zba w _)⟩
 rintro _ X ⟨f0,sX,hbX⟩;refine⟨Unit,fun _=>⟨[(0,i64 n),(1,.func (.func g) #[] caps),(4,At0 L),(5,At0 (L+1))],[]⟩,fun _ Y=>z9 Y (L+1) ⟨n,jT n p 0 0⟩/\Y.heap.size=L+2/\Bw X Y,?_,?_⟩
 ·refine⟨zf ⟨n,fun _=>0⟩,by kernel_rfl,?_⟩;refine zo (X:=X) (v := .agg (zf ⟨n,fun _=>0⟩).toArray) k39 (zh _) (by kernel_rfl) (zF _) fun Z hbZ fZ sZ=>?_;rw [sX] at fZ sZ;exact⟨(),⟨.cons rfl (.cons rfl (.cons rfl (.cons (by rw [<- sX];rfl) .nil))),rfl⟩,by rw [zmE];exact fZ,sZ,hbZ⟩
 rintro _ Y ⟨f1,sY,hbY⟩;have hbwY:=zst hbX hbY;have f0:=zb hbY f0;refine⟨Unit,fun _=>⟨[(4,At0 L),(5,At0 (L+1))],[]⟩,fun _ Z=>z9 Z (L+1) (zb3 n p)/\z9 Z L zz/\Bw w Z,?_,?_⟩
 ·refine⟨Nat,fun a=>⟨[(0,i64 n),(1,.func (.func g) #[] caps),(4,At0 L),(5,At0 (L+1)),(10,i64 n),(11,i64 (a:Nat))],[]⟩,fun a Z=>a<=n/\z9 Z (L+1) ⟨n,jT n p a 0⟩/\z9 Z L zz/\Bw w Z,fun a=>n-a,0,
   (cvE rfl rfl),⟨Ga _,f1,f0,hbwY⟩,?_⟩
  rintro a Z ⟨ha,f1,f0,hbZ⟩;dsimp only at f1 ⊢;refine biE (fun hc=>?_) fun hc=>?_
  ·have hc:(a:Int)<(n:Int):=dT hc;have han:a<n:=by omega
   refine⟨Nat,fun d=>⟨[(0,i64 n),(1,.func (.func g) #[] caps),(4,At0 L),(5,At0 (L+1)),(6,i64 (a:Nat)),(10,i64 n),(11,i64 (a:Nat)),(14,i64 n),(15,i64 (d:Nat))],[]⟩,fun d V=>d<=n/\z9 V (L+1) ⟨n,jT n p a d⟩/\z9 V L zz/\Bw w V,fun d=>n-d,0,
    (cvE rfl rfl),⟨Ga _,f1,f0,hbZ⟩,?_⟩
   clear f1 f0 hbZ;rintro d V ⟨hd,f1,f0,hbV⟩;dsimp only at f1 ⊢;refine biE (fun hc=>?_) fun hc=>?_
   ·have hc:(d:Int)<(n:Int):=dT hc;have hdn:d<n:=(by omega);refine ziw hok (hp a d V han hdn hbV) ?_;rintro e U ⟨rfl,hbU⟩;refine⟨_,rfl,?_⟩;have f1:=zb hbU f1;have f0:=zb hbU f0;have hbU2:=zst hbV hbU;have sU:=hbU2.size;refine biE (fun h=>?_) fun h=>?_
    ·have h:p a d=true:=h;have hR:RelAt U (L+1) 0 39 [] [] ⟨n,jT n p a d⟩:=⟨rfl,by simpa using f1⟩;have dU:Bw U U.drew:=(Gc _ _).drew;have ha48:a<48:=(by omega);refine DrawE.ord [9] [0,1,2,3,4,5,6,7,8,9] (by kernel_rfl) ⟨a,rfl,ha48,s64 (jT n p a d a),(hR.same (Y:=U.drew) rfl).cell ha48,by omega,_,j5 (e:=d) (by omega),_,zaq (zoX (by omega) (by omega) a ha48) (qa (by omega)),a,rfl,ha48,zm k36 (hR.same (Y:=U.drew) rfl).cells (o:=0+1+a*1) (v:=s64 (jT n p a d a|||2^d)) rfl rfl (by rw [hR.len];omega) rfl fun S fS gS sS=>?_⟩;rw [hR.set ha48] at fS;have e5:upd (jT n p a d) a (jT n p a d a|||2^d)=jT n p a (d+1):=zoY h;dsimp only at fS;rw [e5] at fS;have gS2:U.grownBy S (some (L+1)):=zd (zi dU) gS;exact nxI (by omega) ⟨d+1,(cvE rfl rfl),⟨hdn,by simpa using fS,(gS2.block L (hlt f0) (by simp)).trans f0,hbU2.trans (zk gS2 sU (by omega))⟩,zdc (by omega)⟩
    ·have h:p a d=false:=h;exact nxI (by omega) ⟨d+1,(cvE rfl rfl),⟨hdn,by rw [<- zmF h];exact f1,f0,hbU2⟩,zdc (by omega)⟩
   ·have hc:¬ (d:Int)<(n:Int):=dF hc;obtain rfl:d=n:=(by omega);exact nxI (by omega) ⟨a+1,(cvE rfl rfl),⟨han,by rw [<- zmG];exact f1,f0,hbV⟩,zdc (by omega)⟩
  ·have hc:¬ (a:Int)<(n:Int):=dF hc;obtain rfl:a=n:=by omega
   rw [zoZ] at f1;exact⟨(),(cvE rfl rfl),f1,f0,hbZ⟩
 rintro _ Z ⟨f1,f0,hbZ⟩;exact⟨zf (zb3 n p),zh _,za f1,hlt f1,zt (v := .agg (zf (zb3 n p)).toArray) k39 f0 (zh _) (zh _) (zF _) ⟨zf (zb3 n p),zh _,za (zn f0),rfl,zl hbZ (by omega) _⟩⟩
def zua:Enc RelD:=⟨zf,49,zh,by decide,fun a u hu=>Ql.1 (zF a) u hu⟩
theorem zc4 {l:List RelD}:∀ {r:RelD},zI r.to->(∀ o∈l,zI o.to)->zI (qr r l).to:=by
 induction l with
 | nil=>exact fun h _=>h
 | cons o l ih=>exact fun h hl=>ih (zoG h (hl o KA)) fun x hx=>hl x (JY _ hx)
theorem zjL {r:RelD} {l:List RelD} {pm:OA} {cm:Nat} (hr:zI r.to) (hl:SlR zua w pm l) (hw:∀ o∈l,zI o.to) (hn:l.length<=1000) :
  CB 52 #[.agg (zf r).toArray,.slice pm l.length cm] w (.agg (zf (qr r l)).toArray):=by
 refine qz 21 [.agg (zf r).toArray,.slice pm l.length cm] (.c .p (.c .p .p)) Tryz.func52 ?_;obtain⟨L,hL⟩:=nm (w.heap.size);refine⟨Unit,fun _=>⟨[(1,.slice pm l.length cm),(2,At0 L),(4,At0 (L+1))],[]⟩,fun _ X=>z9 X L r/\z9 X (L+1) zz/\Bw w X,?_,?_⟩
 ·have s1:=wz w (.cells (zf r).toArray 39);have h2:=zw (w.alloc (.cells (zf r).toArray 39)) (.cells (zf zz).toArray 39);rw [s1] at h2;refine⟨(),⟨.cons rfl (.cons (by rw [hL];rfl) (.cons (by rw [hL,<- s1];rfl) .nil)),rfl⟩,by rw [hL];exact qP _ (zw w _),by rw [hL];exact h2,((zba w _)).alloc (by simp) _⟩
 rintro _ X ⟨f0,f1,hbX⟩;refine⟨Unit,fun _=>⟨[(2,At0 L),(4,At0 (L+1))],[]⟩,fun _ Z=>z9 Z L (qr r l)/\z9 Z (L+1) zz/\Bw w Z,?_,?_⟩
 ·refine⟨Nat,fun k=>⟨[(2,At0 L),(4,At0 (L+1)),(7,.slice pm l.length cm),(8,i64 l.length),(9,i64 (k:Nat))],[]⟩,fun k Z=>k<=l.length/\z9 Z L (qr r (l.take k))/\z9 Z (L+1) zz/\Bw w Z,fun k=>l.length-k,0,
   (cvE rfl rfl),⟨Ga _,f0,f1,hbX⟩,?_⟩
  clear f0 f1 hbX;rintro k Z ⟨hk,f0,f1,hbZ⟩;dsimp only;have hZs:=hbZ.size;refine biE (fun hc=>?_) fun hc=>?_
  ·have hc:(k:Int)<(l.length:Int):=dT hc;have hkl:k<l.length:=by omega
   obtain⟨b,o,rfl,hb,hat⟩:=hl.at hkl;obtain⟨t,ht⟩:∃ t,l[k]=t:=⟨_,rfl⟩;have htm:t∈l:=by rw [<- ht];exact gM hkl
   have htk:qr r (l.take (k+1))=(zar (qr r (l.take k)) t).1:=by
    unfold qr;rw [tsg hkl,ht,KU];rfl
   have hut:zI (qr r (l.take k)).to:=zc4 hr fun o ho=>hw o (Ka ho);refine⟨k,rfl,hkl,zf t,zh _,by rw [<- ht];exact zr hbZ (hat k hkl),nL hb hZs,zo (X:=Z) (v := .agg (zf t).toArray) k39 (zh _) (by kernel_rfl) (zF _) fun Y hbY fY sY=>?_⟩;have fY:z9 Y Z.heap.size t:=fY;have f0:=zb hbY f0;have f1:=zb hbY f1;refine⟨zf (qr r (l.take k)),zh _,za f0,hlt f0,zf t,zh _,za fY,hlt fY,cmo (zty hut (hw t htm)) ?_⟩;rintro e V ⟨rfl,hbV⟩;have f0:=zb hbV f0;have f1:=zb hbV f1;refine zt (v := .agg (zf (zar (qr r (l.take k)) t).1).toArray) k39 f0 (zh _) (zh _) (zF _) (nxI (by omega) ?_);have hbV2:=(hbZ.trans (hbY.mono hZs)).trans (hbV.mono (by have:=hbY.size;omega));exact⟨k+1,(cvE rfl rfl),⟨hkl,by rw [htk];exact zn f0,(zq (by omega)).trans f1,zl hbV2 (by omega) _⟩,zdc (by omega)⟩
  ·have hc:¬ (k:Int)<(l.length:Int):=dF hc;obtain rfl:k=l.length:=by omega
   rw [Qy] at f0;exact⟨(),(cvE rfl rfl),f0,f1,hbZ⟩
 rintro _ Z ⟨f0,f1,hbZ⟩;exact⟨zf (qr r l),zh _,za f0,hlt f0,zt (v := .agg (zf (qr r l)).toArray) k39 f1 (zh _) (zh _) (zF _) ⟨zf (qr r l),zh _,za (zn f1),rfl,zl hbZ (by omega) _⟩⟩
end
section
variable {w:Wd} {b c:Nat} {x:ExD} {q:OA}
theorem zgg {X:Wd} {o:Nat} {r:RelD} (fx:zG X ⟨b,0,none⟩ (exC x q c)) (h:∃ A T,A.length=o/\exC x q c=A++(zf r++T)):∀ i,i<48->X.cell? ⟨b,o+1+i*1,none⟩=some (s64 (r.to i)):=by
 intro i hi;obtain⟨A,T,hA,hE⟩:=h;have:(exC x q c)[o+1+i*1]?=some (s64 (r.to i)):=by
  rw [hE,UY,UF,q8 hA,Jr (by rw [zh];omega),zfb r hi]
 have h2:=zc fx this;rw [US] at h2;exact h2
theorem zq6 (x:ExD) (q:OA) (c:Nat):∃ A T,A.length=1/\exC x q c=A++(zf x.po++T):=by
 obtain⟨A,T,hA,hE⟩:=zod x q c [];exact⟨A,T,hA,by rw [<- hE,QL]⟩
theorem zuF (x:ExD) (q:OA) (c:Nat):∃ A T,A.length=148/\exC x q c=A++(zf x.dt++T):=by
 obtain⟨A,T,hA,hE⟩:=zoe x q c [];exact⟨A,T,hA,by rw [<- hE,QL]⟩
theorem zuG (x:ExD) (q:OA) (c:Nat):∃ A T,A.length=197/\exC x q c=A++(zf x.ct++T):=by
 obtain⟨A,T,hA,hE⟩:=zof x q c [];exact⟨A,T,hA,by rw [<- hE,QL]⟩
theorem zq5 (x:ExD) (q:OA) (c:Nat):∃ A T,A.length=246/\exC x q c=A++(zf x.rm++T):=by
 obtain⟨A,T,hA,hE⟩:=zob x q c [];exact⟨A,T,hA,by rw [<- hE,QL]⟩
theorem zky (x:ExD) (i:Nat):(decide ((evA x i).k=1)||decide ((evA x i).k=2))=zbN x i:=rfl
theorem zcz {X:Wd} (hv:SlR evE X q x.ev) {a:Nat} (ha:a<x.ev.length):∃ bq oq,q=some ⟨bq,oq,none⟩/\bq<X.heap.size/\zG X ⟨bq,oq+a*7,none⟩ (evE.enc (evA x a)):=zcA hv ha
theorem zqf {a d:Nat} (fx:zG w ⟨b,0,none⟩ (exC x q c)) (hv:SlR evE w q x.ev) (ha:a<x.ev.length) (hd:d<x.ev.length) :
  CB 50 #[At0 b,i64 (a:Nat),i64 (d:Nat)] w (.bool (zbn x a d)):=by
 refine qz 44 [At0 b,i64 (a:Nat),i64 (d:Nat)] (.c .p .p) Tryz.func50 ?_;refine⟨Unit,fun _=>⟨[(0,At0 b),(1,i64 (a:Nat)),(2,i64 (d:Nat))],[]⟩,fun _ X=>w=X,⟨(),(cvE rfl rfl),rfl⟩,?_⟩;rintro _ _ rfl;obtain⟨bq,oq,hqe,hb,hat⟩:=zcz hv ha;obtain⟨bq2,oq2,hqe2,hb2,hat2⟩:=zcz hv hd;rw [hqe] at hqe2;simp only [Qa,Uv,Gj] at hqe2;rw [<- hqe2.1,<- hqe2.2] at hat2;subst hqe;have dw:Bw w w.drew:=(Gc _ _).drew;refine DrawE.ord [] [0,1,2,3,4,5,6,7,8,9,10,11,12,13,14,15,16,17,18,19,20,21,22,23,24,25,26,27,28,29,30,31,32,33,34,35,36,37] (by kernel_rfl) ⟨_,zaE (zr dw fx),a,rfl,ha,evE.enc (evA x a),rfl,zr dw hat,nL hb dw.size,cmo zfL ?_⟩;rintro e X ⟨rfl,hbX⟩;refine⟨hbX,?_⟩;have bX:=dw.trans hbX;rw [zky];refine biE (fun h1=>?_) fun h1=>?_
 ·have h1:zbN x a=true:=h1;refine⟨_,zaE (zr bX fx),d,rfl,hd,evE.enc (evA x d),rfl,zr bX hat2,nL hb bX.size,cmo zfL ?_⟩;rintro e Y ⟨rfl,hbY⟩;refine⟨hbY,?_⟩;have bY:=zst bX hbY;rw [zky];refine biE (fun h2=>?_) fun h2=>?_
  ·have h2:zbN x d=true:=h2;refine⟨_,zaE (zr bY fx),a,rfl,ha,u8 (evA x a).l,by have:=zc (zr bY hat) (i:=2) (v:=u8 (evA x a).l) rfl;exact this,_,zaE (zr bY fx),d,rfl,hd,u8 (evA x d).l,by have:=zc (zr bY hat2) (i:=2) (v:=u8 (evA x d).l) rfl;exact this,rb ?_,bY⟩;unfold zbn;rw [h1,h2,Uz,Uz];exact QH.2 qA
  ·have h2:zbN x d=false:=h2;refine⟨rb ?_,bY⟩;unfold zbn;rw [h1,h2];rfl
 ·have h1:zbN x a=false:=h1;refine brF ⟨rb ?_,bX⟩;unfold zbn;rw [h1];rfl
end
structure ScnV (X:Wd) (b:Nat) (x:ExD) (q:OA) (c:Nat) (f l s:RelD):Prop where
 h:X.heap[b]?=some (.cells (exC x q c++(zf f++(zf l++zf s))).toArray 157 (0,0))
 v:ExW X x q
 wf:zI f.to
 wl:zI l.to
 ws:zI s.to
section
variable {w:Wd} {b c:Nat} {x:ExD} {q:OA} {f l s:RelD}
theorem ScnV.below {X Y:Wd} (h:ScnV X b x q c f l s) (hb:Bw X Y):ScnV Y b x q c f l s:=⟨zb hb h.h,h.v.below hb,h.wf,h.wl,h.ws⟩
theorem ScnV.cells {X:Wd} (h:ScnV X b x q c f l s):zG X ⟨b,0,none⟩ (exC x q c):=by
 have:=zW (n:=0) (m:=333) (za h.h);have e:((exC x q c++(zf f++(zf l++zf s))).toArray.toList.drop 0).take 333=exC x q c:=by
  show (exC x q c++_).take 333=_;rw [Jg (by rw [zC];decide),JH (by rw [zC];decide)]
 rw [e] at this;exact this
theorem ScnV.at {X:Wd} {o:Nat} {r:RelD} (h:ScnV X b x q c f l s) (hr:∃ A T,A.length=o/\exC x q c++(zf f++(zf l++zf s))=A++(zf r++T)):∀ i,i<48->X.cell? ⟨b,o+1+i*1,none⟩=some (s64 (r.to i)):=by
 intro i hi;obtain⟨A,T,hA,hE⟩:=hr;have:(exC x q c++(zf f++(zf l++zf s)))[o+1+i*1]?=some (s64 (r.to i)):=by
  rw [hE,UY,UF,q8 hA,Jr (by rw [zh];omega),zfb r hi]
 have h2:=zc (za h.h) this;rw [US] at h2;exact h2
theorem ScnV.full {X:Wd} (h:ScnV X b x q c f l s):∀ i,i<48->X.cell? ⟨b,0+333+1+i*1,none⟩=some (s64 (f.to i)):=h.at ⟨exC x q c,zf l++zf s,zC _ _ _,rfl⟩
theorem ScnV.loads {X:Wd} (h:ScnV X b x q c f l s):∀ i,i<48->X.cell? ⟨b,0+382+1+i*1,none⟩=some (s64 (l.to i)):=h.at ⟨exC x q c++zf f,zf s,by rw [lap,zC,zh],by rw [KQ]⟩
theorem ScnV.stores {X:Wd} (h:ScnV X b x q c f l s):∀ i,i<48->X.cell? ⟨b,0+431+1+i*1,none⟩=some (s64 (s.to i)):=h.at ⟨exC x q c++(zf f++zf l),[],by rw [lap,lap,zC,zh,zh],by simp only [KQ,QL]⟩
theorem zeI {a:Nat} (h:ScnV w b x q c f l s) (ha:a<x.ev.length):Calls PG 123 #[At0 b,i64 (a:Nat)] w fun e w'=>e = .returned (.bool (isR x a))/\w=w':=by
 refine zJ 15 [At0 b,i64 (a:Nat)] Tryz.func123 ?_;obtain⟨bq,oq,hqe,hb,hat⟩:=zcz h.v.ev ha;have fx:=h.cells;subst hqe;exact⟨_,zaE fx,a,rfl,ha,u8 (evA x a).k,by have:=zc hat (i:=1) (v:=u8 (evA x a).k) rfl;exact this,rb (QH.2 (qA (x:=(evA x a).k) (y:=1))),rfl⟩
theorem jD {a:Nat} (h:ScnV w b x q c f l s) (ha:a<x.ev.length):Calls PG 124 #[At0 b,i64 (a:Nat)] w fun e w'=>e = .returned (.bool (isW x a))/\w=w':=by
 refine zJ 15 [At0 b,i64 (a:Nat)] Tryz.func124 ?_;obtain⟨bq,oq,hqe,hb,hat⟩:=zcz h.v.ev ha;have fx:=h.cells;subst hqe;exact⟨_,zaE fx,a,rfl,ha,u8 (evA x a).k,by have:=zc hat (i:=1) (v:=u8 (evA x a).k) rfl;exact this,rb (QH.2 (qA (x:=(evA x a).k) (y:=2))),rfl⟩
theorem zdy {a:Nat} {md:UInt8} (h:ScnV w b x q c f l s) (ha:a<x.ev.length):Calls PG 128 #[At0 b,i64 (a:Nat),u8 md] w fun e w'=>e = .returned (.bool (z7 x a md))/\w=w':=by
 refine zJ 30 [At0 b,i64 (a:Nat),u8 md] Tryz.func128 ?_;obtain⟨bq,oq,hqe,hb,hat⟩:=zcz h.v.ev ha;have fx:=h.cells;subst hqe;refine⟨_,zaE fx,a,rfl,ha,u8 (evA x a).m,by have:=zc hat (i:=4) (v:=u8 (evA x a).m) rfl;exact this,biE (fun h1=>?_) fun h1=>?_⟩
 ·have h1:(evA x a).m=md:=qA.1 (dT h1);exact⟨rb (by unfold z7;rw [Ut h1];rfl),rfl⟩
 ·have h1:¬ (evA x a).m=md:=fun e=>(dF h1) (by rw [e]);exact⟨_,zaE fx,a,rfl,ha,u8 (evA x a).m,by have:=zc hat (i:=4) (v:=u8 (evA x a).m) rfl;exact this,rb (by unfold z7;rw [Ui h1,Uw];exact QH.2 (qA (x:=(evA x a).m) (y:=3))),rfl⟩
theorem zow {a d:Nat} (h:ScnV w b x q c f l s) (ha:a<x.ev.length) (hd:d<x.ev.length):Calls PG 125 #[At0 b,i64 (a:Nat),i64 (d:Nat)] w fun e w'=>e = .returned (.bool (zaI x f a d))/\w=w':=by
 refine zJ 23 [At0 b,i64 (a:Nat),i64 (d:Nat)] Tryz.func125 ?_;have hn:=h.v.n;refine cmo (z3 h.full h.wf (by omega) (by omega)) ?_;rintro e _ ⟨rfl,rfl⟩;refine biE (fun h1=>?_) fun h1=>?_
 ·have h1:zg f a d=true:=h1;exact brT ⟨rb (by unfold zaI;rw [h1];rfl),rfl⟩
 have h1:zg f a d=false:=h1;refine cmo (zdy (md:=3) h ha) ?_;rintro e _ ⟨rfl,rfl⟩;refine biE (fun h2=>?_) fun h2=>?_
 ·have h2:z7 x a 3=true:=h2;exact⟨rb (by unfold zaI;rw [h1,h2];rfl),rfl⟩
 have h2:z7 x a 3=false:=h2;refine cmo (zdy (md:=3) h hd) ?_;rintro e _ ⟨rfl,rfl⟩;exact⟨rb (by unfold zaI;rw [h1,h2];rfl),rfl⟩
end
abbrev orG (l:List Nat):Nat:=l.foldl (fun s i=>s|||2^i) 0
theorem zqw (l:List Nat) (i:Nat):orG (l++[i])=orG l|||2^i:=by
 unfold orG;rw [KU];rfl
theorem znX:∀ (l:List Nat) (s:Nat),s<2^64->(∀ i∈l,i<64)->l.foldl (fun s i=>s|||2^i) s<2^64
 | [],s,h,_=>h
 | i::l,s,h,hl=>znX l (s|||2^i) (KZ h (qa (hl i KA))) fun j hj=>hl j (JY _ hj)
theorem zqx {l:List Nat} (hl:∀ i∈l,i<64):orG l<2^64:=znX l 0 (by decide) hl
section
variable {w:Wd}
theorem zv7 {p:OA} {cp:Nat} {l:List Nat} (hl:SlR zB w p l) (h64:∀ i∈l,i<64) (hn:l.length<=1000):Calls PG 118 #[.slice p l.length cp] w fun e w'=>e = .returned (.tuple #[s64 (orG l),i64 0])/\w=w':=by
 refine zJ 25 [.slice p l.length cp] Tryz.func118 ?_;refine⟨Nat,fun k=>⟨[(4,s64 (orG (l.take k))),(7,.slice p l.length cp),(8,i64 l.length),(9,i64 (k:Nat))],[]⟩,fun k X=>k<=l.length/\w=X,fun k=>l.length-k,0,(cvE rfl rfl),⟨Ga _,rfl⟩,?_⟩;rintro k _ ⟨hk,rfl⟩;dsimp only;refine biE (fun hc=>?_) fun hc=>?_
 ·have hc:(k:Int)<(l.length:Int):=dT hc;have hkl:k<l.length:=by omega
  obtain⟨b,o,rfl,hb,hat⟩:=hl.at hkl;obtain⟨t,ht⟩:∃ t,l[k]=t:=⟨_,rfl⟩;have ht64:=h64 t (by rw [<- ht];exact gM hkl);have htk:orG (l.take (k+1))=orG (l.take k)|||2^t:=by rw [tsg hkl,ht,zqw]
  refine⟨k,rfl,hkl,i64 t,by have:=zc (hat k hkl) (i:=0) (v:=i64 t) (by rw [ht];rfl);exact this,biE (fun h=>?_) fun _=>?_⟩
  ·have h:(t:Int)<0:=dT h;omega
  refine biE (fun h=>?_) fun _=>?_
  ·have h:(64:Int)<=(t:Nat):=dT h;omega
  exact⟨by omega,_,j5 (e:=t) (by omega),_,zaq (zqx fun i hi=>h64 i (Ka hi)) (qa ht64),nxI (by omega) ⟨k+1,⟨.cons (by show _=some (s64 (orG (l.take (k+1))));rw [htk];rfl) (.cons rfl (.cons rfl (.cons rfl .nil))),rfl⟩,⟨hkl,rfl⟩,zdc (by omega)⟩⟩
 ·have hc:¬ (k:Int)<(l.length:Int):=dF hc;obtain rfl:k=l.length:=by omega
  rw [Qy];exact⟨rfl,rfl⟩
end
section
variable {b c:Nat} {x:ExD} {q:OA} {w:Wd}
theorem zq1 (hv:ExW w x q) (hT:Tz64M w):zI (z5 x.rf).to/\zI (frM x).to:=by
 have h1:zI (z5 x.rf).to:=by
  unfold z5
  split
  ·rename_i h;intro i hi;refine QB fun hge=>?_;obtain⟨j,hj1,hj2⟩:=Ja hge;rw [show ((⟨x.rf.n,zaQ x.rf.to x.rf.n.toNat⟩:RelD).to i)=zaQ x.rf.to x.rf.n.toNat i from rfl,zgq,bAT,dE] at hj2;have h48:=(jt h).2.1;omega
  ·exact fun i _=>(by show 0<2^64;decide)
 exact⟨h1,zdx h1 hv.co⟩
theorem zv0 (fx:ExH w b x q c) (hv:ExW w x q) (hT:Tz64M w):CB 37 #[At0 b] w (.agg (zf (frM x)).toArray):=by
 refine qz 19 [At0 b] (.c .p (.c .p .p)) Tryz.func37 ?_;obtain⟨L,hL⟩:=nm (w.heap.size);obtain⟨wb,wf⟩:=zq1 hv hT;refine⟨Unit,fun _=>⟨[(0,At0 b),(2,At0 L)],[]⟩,fun _ X=>z9 X L zz/\Bw w X,⟨(),⟨.cons rfl (.cons (by rw [hL];rfl) .nil),rfl⟩,by rw [hL];exact zw w _,(zba w _)⟩,?_⟩;rintro _ X ⟨f0,hbX⟩;refine⟨Nat,fun F=>⟨[(2,At0 L),(3,At0 F)],[]⟩,fun F Z=>z9 Z F (frM x)/\z9 Z L zz/\Bw w Z,?_,?_⟩
 ·have dX:Bw X X.drew:=(Gc _ _).drew;have fX:=hdr (zb hbX fx);have hba:∀ (A:Wd) (o:Obj),Bw A (A.alloc o):=fun A o=>(zba _ _);have put:∀ (W:Wd) (b3:Nat),Bw X W->z9 W b3 zz->X.heap.size<=b3->∀ {K:Wd->Prop},(∀ V,(z9 V b3 (frM x)/\z9 V L zz/\Bw w V)->K V) ->
    SatR ((storeVar 39 ⟨b3,0,none⟩ (.agg (zf (frM x)).toArray)).run PG W) fun _ w'=>K w':=by
   intro W b3 hW f3 g3 K k;refine zt (v := .agg (zf (frM x)).toArray) k39 f3 (zh _) (zh _) (zF _) ?_;have hL2:=hlt f0;exact k _ ⟨zn f3,(zq (by omega)).trans (zb hW f0),zl ((zst hbX hW)) (by have:=hbX.size;omega) _⟩
  refine DrawE.treeQ [14] (.op 0 (.op 1 (.op 2 (.op 3 (.op 5 (.op 6 (.op 7 (.op 8 (.alt (.op 13 (.op 4 (.op 9 (.op 10 (.op 11 (.op 12 (.op 14 (.op 15 (.nil))))))))) (.op 4 (.alt (.op 13 (.op 9 (.op 10 (.op 11 (.op 12 (.op 14 (.op 15 (.nil)))))))) (.op 9 (.op 10 (.op 11 (.op 12 (.op 13 (.op 14 (.op 15 (.nil))))))))))))))))))) (by kernel_rfl) ⟨zf x.rf,zh _,jK fX (i:=1) (by decide) rfl,hlt fX,zf x.co,zh _,jK fX (i:=2) (by decide) rfl,hlt fX,Gh ?_ ?_⟩
  ·refine⟨hba _ _,?_⟩;have b1:=dX.alloc (UX _) (.cells (zf zz).toArray 39);refine cmo (ziD hv.rf (hT.below ((zst hbX b1)))) ?_;rintro e Y ⟨rfl,hbY,_⟩;refine⟨hbY,?_⟩;have b2:=zst b1 hbY;refine cmo (zcB wb hv.co (hT.below ((zst hbX b2)))) ?_;rintro e Z ⟨rfl,hbZ⟩;exact⟨hbZ,put Z X.heap.size ((zst b2 hbZ)) (zb hbZ (zb hbY (zw X.drew _))) (UX _) (fun V hV=>⟨X.heap.size,(cvE rfl rfl),hV⟩)⟩
  refine cmo (ziD hv.rf (hT.below ((zst hbX dX)))) ?_;rintro e Y ⟨rfl,hbY,_⟩;refine⟨hbY,?_⟩;have b1:=zst dX hbY;refine Gh ?_ ?_
  ·refine⟨hba _ _,?_⟩;have b2:=b1.alloc b1.size (.cells (zf zz).toArray 39);refine cmo (zcB wb hv.co (hT.below ((zst hbX b2)))) ?_;rintro e Z ⟨rfl,hbZ⟩;exact⟨hbZ,put Z Y.heap.size ((zst b2 hbZ)) (zb hbZ (zw Y _)) b1.size (fun V hV=>⟨Y.heap.size,(cvE rfl rfl),hV⟩)⟩
  ·refine cmo (zcB wb hv.co (hT.below ((zst hbX b1)))) ?_;rintro e Z ⟨rfl,hbZ⟩;refine⟨hbZ,?_⟩;have b2:=zst b1 hbZ;exact⟨hba _ _,put _ Z.heap.size (b2.alloc b2.size _) (zw Z _) b2.size (fun V hV=>⟨Z.heap.size,(cvE rfl rfl),hV⟩)⟩
 rintro F Z ⟨f1,f0,hbZ⟩;exact⟨zf (frM x),zh _,za f1,hlt f1,zt (v := .agg (zf (frM x)).toArray) k39 f0 (zh _) (zh _) (zF _) ⟨zf (frM x),zh _,za (zn f0),rfl,zl hbZ (by omega) _⟩⟩
end
section
variable {b c:Nat} {x:ExD} {q:OA} {w:Wd}
theorem zuE {r:RelD} {a d R B:Nat} (fR:z9 w R r) (hr:zI r.to) (fB:w.heap[B]?=some (.cells #[At0 b] 81 (0,0))) (fx:ExH w b x q c) (hv:ExW w x q) (ha:a<x.ev.length) (hd:d<x.ev.length) :
  CB 92 #[i64 (a:Nat),i64 (d:Nat),At0 R,At0 B] w (.bool (zg r a d && !decide ((evA x a).th=(evA x d).th))):=by
 refine zJ 29 [i64 (a:Nat),i64 (d:Nat),At0 R,At0 B] Tryz.func92 ?_;have hn:=hv.n;obtain⟨bq,oq,hqe,hb,hat⟩:=zcz hv.ev ha;obtain⟨bq2,oq2,hqe2,hb2,hat2⟩:=zcz hv.ev hd;rw [hqe] at hqe2;simp only [Qa,Uv,Gj] at hqe2;rw [<- hqe2.1,<- hqe2.2] at hat2;subst hqe;have dw:Bw w w.drew:=(Gc _ _).drew;refine DrawE.ord [] [0,1,2,3,4,5,6,7,8,9,10,11,12,13,14,15,16,17,18,19,20,21,22] (by kernel_rfl) (cmo (z3 (zo1 (hdr fR)) hr (by omega) (by omega)) ?_);rintro e _ ⟨rfl,rfl⟩;refine⟨Gc _ _,biE (fun h1=>?_) fun h1=>?_⟩
 ·have h1:zg r a d=true:=h1;exact⟨At0 b,zc (za (hdr fB)) (i:=0) rfl,_,zaE (za (hdr fx)),a,rfl,ha,i64 (evA x a).th,by have:=zc (zr dw hat) (i:=0) (v:=i64 (evA x a).th) rfl;exact this,At0 b,zc (za (hdr fB)) (i:=0) rfl,_,zaE (za (hdr fx)),d,rfl,hd,i64 (evA x d).th,by have:=zc (zr dw hat2) (i:=0) (v:=i64 (evA x d).th) rfl;exact this,rb (by rw [h1,Uz]),dw⟩
 ·have h1:zg r a d=false:=h1;exact⟨rb (by rw [h1,Uk]),dw⟩
theorem zpE {a d B:Nat} (fB:w.heap[B]?=some (.cells #[At0 b] 81 (0,0))) (fx:ExH w b x q c) (hv:ExW w x q) (ha:a<x.ev.length) (hd:d<x.ev.length) :
  CB 48 #[i64 (a:Nat),i64 (d:Nat),At0 B] w (.bool (zg x.po a d&&zbn x a d)):=by
 refine zJ 18 [i64 (a:Nat),i64 (d:Nat),At0 B] Tryz.func48 ?_;have hn:=hv.n;refine⟨At0 b,zc (za fB) (i:=0) rfl,cmo (z3 (zgg (za fx) (zq6 x q c)) hv.po (by omega) (by omega)) ?_⟩;rintro e _ ⟨rfl,rfl⟩;refine biE (fun h1=>?_) fun h1=>?_
 ·have h1:zg x.po a d=true:=h1;refine⟨At0 b,zc (za fB) (i:=0) rfl,cmo (zqf (za fx) hv.ev ha hd) ?_⟩;rintro e X ⟨rfl,hb⟩;exact⟨rb (by rw [h1,Uz]),hb⟩
 ·have h1:zg x.po a d=false:=h1;exact⟨rb (by rw [h1,Uk]),Gc _ _⟩
theorem zvu {r:RelD} (fx:ExH w b x q c) (hv:ExW w x q) (hr:zI r.to) (hn:r.n=x.ev.length) :
  CB 56 #[At0 b,.agg (zf r).toArray] w (.agg (zf (zdi x r)).toArray):=by
 refine qz 9 [At0 b,.agg (zf r).toArray] (.c .p (.c .p .p)) Tryz.func56 ?_;obtain⟨L,hL⟩:=nm (w.heap.size);have h19:=hv.n;refine⟨Unit,fun _=>⟨[(2,At0 L),(3,At0 (L+1)),(4,At0 (L+2))],[]⟩,fun _ X=>X.heap[L]?=some (.cells #[At0 b] 81 (0,0))/\z9 X (L+1) r/\z9 X (L+2) zz/\Bw w X,?_,?_⟩
 ·have s1:=wz w (.cells #[At0 b] 81);have s2:=wz (w.alloc (.cells #[At0 b] 81)) (.cells (zf r).toArray 39);have b1:Bw w (w.alloc (.cells #[At0 b] 81)):=zba w _;have b2:=b1.alloc b1.size (.cells (zf r).toArray 39);have h1:=zw w (.cells #[At0 b] 81);have h2:=zw (w.alloc (.cells #[At0 b] 81)) (.cells (zf r).toArray 39);have h3:=zw ((w.alloc (.cells #[At0 b] 81)).alloc (.cells (zf r).toArray 39)) (.cells (zf zz).toArray 39);rw [s1] at h2 s2;rw [s2] at h3;refine⟨(),⟨.cons (by rw [hL];rfl) (.cons (by rw [hL,<- s1];rfl) (.cons (by rw [hL,<- s2];rfl) .nil)),rfl⟩,by rw [hL];exact qP _ (qP _ h1),by rw [hL];exact qP _ h2,by rw [hL];exact h3,b2.alloc b2.size _⟩
 rintro _ X ⟨fB,fR,f0,hbX⟩;have fX:=zb hbX fx;have hvX:=hv.below hbX;refine⟨Unit,fun _=>⟨[(4,At0 (L+2))],[]⟩,fun _ Y=>z9 Y (L+2) (zdi x r)/\Bw w Y,?_,?_⟩
 ·refine⟨i64 r.n,by have:=zc (za fR) (i:=0) (v:=i64 r.n) rfl;exact this,?_⟩;have en:zdi x r=zb3 x.ev.length fun a d=>zg r a d && !decide ((evA x a).th=(evA x d).th):=by
   unfold zdi;rw [hn];rfl
  rw [hn];refine cmo (zmP (n:=x.ev.length) (caps := #[At0 (L+1),At0 L]) (g:=92) (p:=fun a d=>zg r a d && !decide ((evA x a).th=(evA x d).th)) (by omega) (by kernel_rfl) fun a d Z ha hd hb=>zuE (zb hb fR) hr (zb hb fB) (zb hb fX) (hvX.below hb) ha hd) ?_;rintro e Y ⟨rfl,hbY⟩;rw [<- en];have f0:=zb hbY f0;exact zt (v := .agg (zf (zdi x r)).toArray) k39 f0 (zh _) (zh _) (zF _) ⟨(),(cvE rfl rfl),zn f0,zl ((zst hbX hbY)) (by omega) _⟩
 rintro _ Y ⟨f0,hbY⟩;exact⟨zf (zdi x r),zh _,za f0,rfl,hbY⟩
end
section
variable {b c:Nat} {x:ExD} {q:OA} {w:Wd}
theorem zq3 {md:UInt8} (fx:ExH w b x q c) (hv:ExW w x q) (hT:Tz64M w):CB 93 #[At0 b,u8 md] w (.agg (zf (zX x md)).toArray):=by
 refine qz 70 [At0 b,u8 md] (.c .p (.c .p (.c .p (.c .p (.c .p (.c .p (.c .p .p))))))) Tryz.func93 ?_;obtain⟨L,hL⟩:=nm (w.heap.size);have hn:=hv.n;obtain⟨n,hnn⟩:=nm (x.ev.length);refine⟨Unit,fun _=>⟨[(0,At0 b),(1,u8 md),(4,At0 L)],[]⟩,fun _ X=>z9 X L zz/\Bw w X,⟨(),⟨.cons rfl (.cons rfl (.cons (by rw [hL];rfl) .nil)),rfl⟩,by rw [hL];exact zw w _,(zba w _)⟩,?_⟩;rintro _ X ⟨f0,hbX⟩;refine⟨Unit,fun _=>⟨[(0,At0 b),(1,u8 md),(4,At0 L),(5,i64 n)],[]⟩,fun _ Y=>X=Y,?_,?_⟩
 ·exact⟨_,zc (za (zb hbX fx)) (i:=0) rfl,(),⟨.cons rfl (.cons rfl (.cons rfl (.cons (by rw [hnn];rfl) .nil))),rfl⟩,rfl⟩
 rintro _ _ rfl;refine⟨Unit,fun _=>⟨[(0,At0 b),(1,u8 md),(4,At0 L),(5,i64 n),(6,.slice none 0 0)],[]⟩,fun _ Y=>X=Y,⟨(),(cvE rfl rfl),rfl⟩,?_⟩;rintro _ _ rfl;obtain⟨pr,hpr⟩:∃ pr:Nat->Bool,pr=fun i=>decide ((evA x i).k=3)&&decide ((evA x i).m=md):=⟨_,rfl⟩;obtain⟨B,hB⟩:=nm (X.heap.size);refine⟨OA×Nat,fun s=>⟨[(0,At0 b),(4,At0 L),(5,i64 n),(6,.slice s.1 ((List.range n).filter pr).length s.2)],[]⟩,fun s V=>OwnS zB 3 B V s.1 s.2 ((List.range n).filter pr)/\Below B X V,?_,?_⟩
 ·refine⟨_,zc (za (zb hbX fx)) (i:=0) rfl,?_⟩;refine⟨Nat×OA×Nat,fun s=>⟨[(0,At0 b),(1,u8 md),(4,At0 L),(5,i64 n),(6,.slice s.2.1 ((List.range s.1).filter pr).length s.2.2),(23,.slice q x.ev.length c),(24,i64 x.ev.length),(25,i64 (s.1:Nat))],[]⟩,fun s V=>s.1<=x.ev.length/\OwnS zB 3 B V s.2.1 s.2.2 ((List.range s.1).filter pr)/\Below B X V,fun s=>x.ev.length-s.1,(0,none,0),
   (cvE rfl rfl),⟨Ga _,OwnS.nil,by rw [hB];exact Gc _ _⟩,?_⟩
  rintro⟨k,ps,cs⟩ V ⟨hk,oV,hbV⟩;dsimp only at hk oV ⊢;have hVs:B<=V.heap.size:=by have:=hbV.size;omega
  refine biE (fun hc=>?_) fun hc=>?_
  ·have hc:(k:Int)<(x.ev.length:Int):=dT hc;have hkl:k<x.ev.length:=by omega
   have hbwV:=hbX.trans (hbV.mono (by rw [hB];exact hbX.size));obtain⟨bq,oq,hqe,hb,hat⟩:=zcz (hv.ev.below hbwV) hkl;have hfl:(List.range (k+1)).filter pr=(List.range k).filter pr++if pr k=true then [k] else []:=by
    rw [QX,Kw,Qp,List.filter_nil]
   have hprk:pr k=(decide ((evA x k).k=3)&&decide ((evA x k).m=md)):=by rw [hpr]
   have hll2:((List.range k).filter pr).length<=k:=by
    have:=JM pr (List.range k);rw [KW] at this;exact this
   obtain⟨e,he⟩:=nm (evA x k);rw [<- he] at hat hprk;have eq0:some (Value.slice q x.ev.length c)=some (Value.slice (some ⟨bq,oq,none⟩) x.ev.length c):=by rw [hqe]
   subst hqe;refine⟨k,rfl,hkl,evE.enc e,rfl,hat,hb,zo (X:=V) (v := .agg (evE.enc e).toArray) k49 rfl rfl (Ql.2 fun u hu=>evE.one e u hu) fun U hbU fU sU=>?_⟩;have fU:U.heap[V.heap.size]?=some (.cells (evE.enc e).toArray 49 (0,0)):=fU;have oU:=oV.below hbU;have hbU2:=hbV.trans (hbU.mono hVs);have hUs:B<=U.heap.size:=by have:=hbU.size;omega
   have skip:pr k=false->(k+1<=x.ev.length/\OwnS zB 3 B U ps cs ((List.range (k+1)).filter pr)/\Below B X U):=fun h=>⟨hkl,by rw [hfl,h];simpa using oU,hbU2⟩;have skipE:pr k=false->((List.range (k+1)).filter pr).length=((List.range k).filter pr).length:=fun h=>by rw [hfl,h];simp
   refine⟨u8 e.k,zc (za fU) (i:=1) rfl,biE (fun h1=>?_) fun h1=>?_⟩
   ·have h1:e.k=3:=qA.1 (dT h1);refine⟨u8 e.m,zc (za fU) (i:=4) rfl,biE (fun h2=>?_) fun h2=>?_⟩
    ·have h2:e.m=md:=qA.1 (dT h2);have hp1:pr k=true:=(by rw [hprk,Ut h1,Ut h2];rfl);rw [Gq hp1] at hfl;refine⟨⟨by decide,by decide,rfl⟩,zB.enc k,rfl,?_⟩;have hb2:Bw U (U.alloc (.cells (zB.enc k).toArray 3)):=zba _ _;have sb2:=hb2.size;unfold zer zaK;show SatR _ _;refine zpH (oU.below hb2) (qW zB k) (by omega) (by omega) fun p' c' S oS gS hat2=>?_;rw [zaT] at gS;rw [<- hfl] at oS ⊢;exact nxI (by omega) ⟨(k+1,p',c'),(cvE rfl rfl),⟨hkl,oS,hbU2.trans ((hb2.mono hUs).trans (ji (oU.below hb2) (by omega) (UX _) gS))⟩,zdc (by omega)⟩
    ·have h2:¬ e.m=md:=fun e2=>(dF h2) (by rw [e2]);have hp0:pr k=false:=(by rw [hprk,Ui h2,Uj]);exact nxI (by omega) ⟨(k+1,ps,cs),⟨.cons rfl (.cons rfl (.cons rfl (.cons rfl (.cons (by show _=some (Value.slice ps ((List.range (k+1)).filter pr).length cs);rw [skipE hp0];rfl) (.cons rfl (.cons rfl (.cons rfl .nil))))))),rfl⟩,skip hp0,zdc (by omega)⟩
   ·have h1:¬ e.k=3:=fun e2=>(dF h1) (by rw [e2];rfl);have hp0:pr k=false:=(by rw [hprk,Ui h1];rfl);exact brF (nxI (by omega) ⟨(k+1,ps,cs),⟨.cons rfl (.cons rfl (.cons rfl (.cons rfl (.cons (by show _=some (Value.slice ps ((List.range (k+1)).filter pr).length cs);rw [skipE hp0];rfl) (.cons rfl (.cons rfl (.cons rfl .nil))))))),rfl⟩,skip hp0,zdc (by omega)⟩)
  ·have hc:¬ (k:Int)<(x.ev.length:Int):=dF hc;obtain rfl:k=x.ev.length:=by omega
   rw [<- hnn] at oV ⊢;exact⟨(ps,cs),(cvE rfl rfl),oV,hbV⟩
 rintro⟨ps,cs⟩ V ⟨oV,hbV⟩;dsimp only at oV ⊢;have hVs:B<=V.heap.size:=by have:=hbV.size;omega
 have hbwV:=hbX.trans (hbV.mono (by rw [hB];exact hbX.size));have hmask:orG ((List.range n).filter pr)=zbz x md:=by rw [hpr,hnn];rfl
 have hlt64:∀ i∈(List.range n).filter pr,i<64:=fun i hi=>by
  have:=Up.1 (QU.1 hi).1;omega
 have hlen:((List.range n).filter pr).length<=n:=by
  have:=JM pr (List.range n);rw [KW] at this;exact this
 refine⟨Unit,fun _=>⟨[(0,At0 b),(4,At0 L),(5,i64 n),(9,s64 (zbz x md))],[]⟩,fun _ Y=>V=Y,?_,?_⟩
 ·refine cmo (zv7 oV.row hlt64 (by omega)) ?_;rintro e Y ⟨rfl,rfl⟩;rw [hmask];exact⟨(),(cvE rfl rfl),rfl⟩
 rintro _ _ rfl;have hm64:zbz x md<2^64:=by rw [<- hmask];exact zqx hlt64
 replace f0:=zb (by subst hB;exact hbV) f0;have fV:=zb hbwV fx;have hvV:=hv.below hbwV;have hTV:=hT.below hbwV;clear oV hbX hbV hlen hlt64 hmask hpr hB hVs;clear B ps cs pr X;have idw:zI (idR n (zbz x md)).to:=fun i hi=>by
  unfold idR;exact zen (fun i _ _=>KF QZ hm64) i hi
 have hba:∀ (A:Wd) (o:Obj),Bw A (A.alloc o):=fun A o=>(zba _ _);refine⟨Nat,fun F=>⟨[(0,At0 b),(4,At0 L),(11,At0 F)],[]⟩,fun F Z=>z9 Z F (jj x.po (idR n (zbz x md))).1/\z9 Z L zz/\Bw w Z,?_,?_⟩
 ·have dV:Bw V V.drew:=(Gc _ _).drew;have put:∀ (W:Wd) (b3:Nat),Bw V W->z9 W b3 zz->V.heap.size<=b3->∀ {K:Wd->Prop},(∀ Y,(z9 Y b3 (jj x.po (idR n (zbz x md))).1/\z9 Y L zz/\Bw w Y)->K Y) ->
    SatR ((storeVar 39 ⟨b3,0,none⟩ (.agg (zf (jj x.po (idR n (zbz x md))).1).toArray)).run PG W) fun _ w'=>K w':=by
   intro W b3 hW f3 g3 K k;refine zt (v := .agg (zf (jj x.po (idR n (zbz x md))).1).toArray) k39 f3 (zh _) (zh _) (zF _) ?_;have hL2:=hlt f0;exact k _ ⟨zn f3,(zq (by omega)).trans (zb hW f0),zl ((zst hbwV hW)) (by have:=hbwV.size;omega) _⟩
  refine DrawE.treeQ [12] (.op 0 (.op 1 (.op 2 (.op 3 (.op 4 (.op 5 (.alt (.op 11 (.op 6 (.op 7 (.op 8 (.op 9 (.op 10 (.op 12 (.op 13 (.nil))))))))) (.op 6 (.alt (.op 11 (.op 7 (.op 8 (.op 9 (.op 10 (.op 12 (.op 13 (.nil)))))))) (.op 7 (.op 8 (.op 9 (.op 10 (.op 11 (.op 12 (.op 13 (.nil))))))))))))))))) (by kernel_rfl) ⟨zf x.po,zh _,jK (hdr fV) (i:=0) (by decide) rfl,hlt (hdr fV),Gh ?_ ?_⟩
  ·refine⟨hba _ _,?_⟩;have b1:=dV.alloc (UX _) (.cells (zf zz).toArray 39);refine cmo (zvF (n:=n) (by omega) hm64) ?_;rintro e Y ⟨rfl,hbY⟩;refine⟨hbY,?_⟩;have b2:=zst b1 hbY;refine cmo (zcB hvV.po idw (hTV.below b2)) ?_;rintro e Z ⟨rfl,hbZ⟩;exact⟨hbZ,put Z V.heap.size ((zst b2 hbZ)) (zb hbZ (zb hbY (zw V.drew _))) (UX _) (fun Y hY=>⟨V.heap.size,(cvE rfl rfl),hY⟩)⟩
  refine cmo (zvF (n:=n) (by omega) hm64) ?_;rintro e Y ⟨rfl,hbY⟩;refine⟨hbY,?_⟩;have b1:=zst dV hbY;refine Gh ?_ ?_
  ·refine⟨hba _ _,?_⟩;have b2:=b1.alloc b1.size (.cells (zf zz).toArray 39);refine cmo (zcB hvV.po idw (hTV.below b2)) ?_;rintro e Z ⟨rfl,hbZ⟩;exact⟨hbZ,put Z Y.heap.size ((zst b2 hbZ)) (zb hbZ (zw Y _)) b1.size (fun V2 hV=>⟨Y.heap.size,(cvE rfl rfl),hV⟩)⟩
  ·refine cmo (zcB hvV.po idw (hTV.below b1)) ?_;rintro e Z ⟨rfl,hbZ⟩;refine⟨hbZ,?_⟩;have b2:=zst b1 hbZ;exact⟨hba _ _,put _ Z.heap.size (b2.alloc b2.size _) (zw Z _) b2.size (fun V2 hV=>⟨Z.heap.size,(cvE rfl rfl),hV⟩)⟩
 clear f0 fV hvV hTV hbwV;clear V;rintro F V ⟨f1,f0,hbV⟩;have fV:=zb hbV fx;have hTV:=hT.below hbV;have hFw:=zdx hv.po idw;have efen:(jj (jj x.po (idR n (zbz x md))).1 x.po).1=zX x md:=by rw [hnn];rfl
 refine⟨Nat,fun G=>⟨[(4,At0 L),(13,At0 G)],[]⟩,fun G Z=>z9 Z G (zX x md)/\z9 Z L zz/\Bw w Z,?_,?_⟩
 ·have dV:Bw V V.drew:=(Gc _ _).drew;have put:∀ (W:Wd) (b3:Nat),Bw V W->z9 W b3 zz->V.heap.size<=b3->∀ {K:Wd->Prop},(∀ Y,(z9 Y b3 (zX x md)/\z9 Y L zz/\Bw w Y)->K Y) ->
    SatR ((storeVar 39 ⟨b3,0,none⟩ (.agg (zf (zX x md)).toArray)).run PG W) fun _ w'=>K w':=by
   intro W b3 hW f3 g3 K k;refine zt (v := .agg (zf (zX x md)).toArray) k39 f3 (zh _) (zh _) (zF _) ?_;have hL2:=hlt f0;exact k _ ⟨zn f3,(zq (by omega)).trans (zb hW f0),zl ((zst hbV hW)) (by have:=hbV.size;omega) _⟩
  refine DrawE.treeQ [10] (.op 0 (.op 1 (.op 2 (.op 3 (.op 4 (.alt (.op 9 (.op 5 (.op 6 (.op 7 (.op 8 (.op 10 (.op 11 .nil))))))) (.op 5 (.op 6 (.op 7 (.op 8 (.op 9 (.op 10 (.op 11 .nil))))))))))))) (by kernel_rfl) ⟨zf _,zh _,za (hdr f1),hlt (hdr f1),zf x.po,zh _,jK (hdr fV) (i:=0) (by decide) rfl,hlt (hdr fV),Gh ?_ ?_⟩
  ·refine⟨hba _ _,?_⟩;have b1:=dV.alloc (UX _) (.cells (zf zz).toArray 39);refine cmo (zcB hFw hv.po (hTV.below b1)) ?_;rintro e Y ⟨rfl,hbY⟩;refine⟨hbY,?_⟩;rw [efen];exact put Y V.heap.size ((zst b1 hbY)) (zb hbY (zw V.drew _)) (UX _) (fun Y hY=>⟨V.heap.size,(cvE rfl rfl),hY⟩)
  ·refine cmo (zcB hFw hv.po (hTV.below dV)) ?_;rintro e Y ⟨rfl,hbY⟩;refine⟨hbY,?_⟩;have b1:=zst dV hbY;refine⟨hba _ _,?_⟩;rw [efen];exact put _ Y.heap.size (b1.alloc b1.size _) (zw Y _) b1.size (fun V2 hV=>⟨Y.heap.size,(cvE rfl rfl),hV⟩)
 rintro G Z ⟨f1,f0,hbZ⟩;exact⟨zf (zX x md),zh _,za f1,hlt f1,zt (v := .agg (zf (zX x md)).toArray) k39 f0 (zh _) (zh _) (zF _) ⟨zf (zX x md),zh _,za (zn f0),rfl,zl hbZ (by omega) _⟩⟩
end
section
variable {w:Wd} {b c:Nat} {x:ExD} {q:OA} {f l s:RelD}
theorem zsg {a d:Nat}:CB 120 #[At0 b,i64 (a:Nat),i64 (d:Nat)] w (.bool (zfq 1 x f l s a d)):=by
 refine zJ 7 [At0 b,i64 (a:Nat),i64 (d:Nat)] Tryz.func120 ?_;exact⟨rfl,Gc _ _⟩
theorem zsf {a d:Nat}:CB 121 #[At0 b,i64 (a:Nat),i64 (d:Nat)] w (.bool (zfq 2 x f l s a d)):=by
 refine zJ 7 [At0 b,i64 (a:Nat),i64 (d:Nat)] Tryz.func121 ?_;exact⟨rfl,Gc _ _⟩
theorem zse {a d:Nat} (h:ScnV w b x q c f l s) (ha:a<x.ev.length) (hd:d<x.ev.length):CB 122 #[At0 b,i64 (a:Nat),i64 (d:Nat)] w (.bool (zfq 3 x f l s a d)):=by
 refine zJ 21 [At0 b,i64 (a:Nat),i64 (d:Nat)] Tryz.func122 ?_;have hn:=h.v.n;have hA:a<48:=by omega
 have hD:d<48:=by omega
 have hbw:=Gc w.heap.size w;refine cmo (zeI h ha) ?_;rintro e _ ⟨rfl,rfl⟩;refine biE (fun h1=>?_) fun h1=>?_
 ·have h1:isR x a=true:=h1;exact brT ⟨rb (by show _=(isR x a||(isW x d||zaI x f a d));rw [h1];rfl),hbw⟩
 ·have h1:isR x a=false:=h1;refine cmo (jD h hd) ?_;rintro e _ ⟨rfl,rfl⟩;refine biE (fun h2=>?_) fun h2=>?_
  ·have h2:isW x d=true:=h2;exact⟨rb (by show _=(isR x a||(isW x d||zaI x f a d));rw [h1,h2];rfl),hbw⟩
  ·have h2:isW x d=false:=h2;refine cmo (zow h ha hd) ?_;rintro e _ ⟨rfl,rfl⟩;exact⟨rb (by show _=(isR x a||(isW x d||zaI x f a d));rw [h1,h2];rfl),hbw⟩
theorem zsd {a d:Nat} (h:ScnV w b x q c f l s) (ha:a<x.ev.length) (hd:d<x.ev.length):CB 126 #[At0 b,i64 (a:Nat),i64 (d:Nat)] w (.bool (zfq 4 x f l s a d)):=by
 refine zJ 37 [At0 b,i64 (a:Nat),i64 (d:Nat)] Tryz.func126 ?_;have hn:=h.v.n;have hA:a<48:=by omega
 have hD:d<48:=by omega
 have hbw:=Gc w.heap.size w;refine cmo (zeI h ha) ?_;rintro e _ ⟨rfl,rfl⟩;refine biE (fun h1=>?_) fun h1=>?_
 ·have h1:isR x a=true:=h1;exact brT ⟨rb (by show _=(isR x a||(zaI x f a d||(isW x d&&(zbn x a d||zg s a d))));rw [h1];rfl),hbw⟩
 ·have h1:isR x a=false:=h1;refine cmo (zow h ha hd) ?_;rintro e _ ⟨rfl,rfl⟩;refine biE (fun h2=>?_) fun h2=>?_
  ·have h2:zaI x f a d=true:=h2;exact⟨rb (by show _=(isR x a||(zaI x f a d||(isW x d&&(zbn x a d||zg s a d))));rw [h1,h2];rfl),hbw⟩
  ·have h2:zaI x f a d=false:=h2;refine cmo (jD h hd) ?_;rintro e _ ⟨rfl,rfl⟩;refine biE (fun h3=>?_) fun h3=>?_
   ·have h3:isW x d=true:=h3;refine cmo (zqf h.cells h.v.ev ha hd) ?_;rintro e Z4 ⟨rfl,hbZ4⟩;have h:=h.below hbZ4;have hbw:=zst hbw hbZ4;refine biE (fun h4=>?_) fun h4=>?_
    ·have h4:zbn x a d=true:=h4;exact⟨rb (by show _=(isR x a||(zaI x f a d||(isW x d&&(zbn x a d||zg s a d))));rw [h1,h2,h3,h4];rfl),hbw⟩
    ·have h4:zbn x a d=false:=h4;refine cmo (z3 h.stores h.ws hA hD) ?_;rintro e _ ⟨rfl,rfl⟩;exact⟨rb (by show _=(isR x a||(zaI x f a d||(isW x d&&(zbn x a d||zg s a d))));rw [h1,h2,h3,h4];rfl),hbw⟩
   ·have h3:isW x d=false:=h3;exact⟨rb (by show _=(isR x a||(zaI x f a d||(isW x d&&(zbn x a d||zg s a d))));rw [h1,h2,h3];rfl),hbw⟩
theorem zsc {a d:Nat} (h:ScnV w b x q c f l s) (ha:a<x.ev.length) (hd:d<x.ev.length):CB 127 #[At0 b,i64 (a:Nat),i64 (d:Nat)] w (.bool (zfq 5 x f l s a d)):=by
 refine zJ 49 [At0 b,i64 (a:Nat),i64 (d:Nat)] Tryz.func127 ?_;have hn:=h.v.n;have hA:a<48:=by omega
 have hD:d<48:=by omega
 have hbw:=Gc w.heap.size w;refine cmo (zeI h ha) ?_;rintro e _ ⟨rfl,rfl⟩;refine biE (fun h1=>?_) fun h1=>?_
 ·have h1:isR x a=true:=h1;refine cmo (zdy (md:=1) h ha) ?_;rintro e _ ⟨rfl,rfl⟩;refine biE (fun h2=>?_) fun h2=>?_
  ·have h2:z7 x a 1=true:=h2;exact brT (brT ⟨rb (by show _=((isR x a&&(z7 x a 1||zg l a d))||((isW x d&&(z7 x d 2||zg s a d))||zg f a d));rw [h1,h2];rfl),hbw⟩)
  ·have h2:z7 x a 1=false:=h2;refine cmo (z3 h.loads h.wl hA hD) ?_;rintro e _ ⟨rfl,rfl⟩;refine biE (fun h3=>?_) fun h3=>?_
   ·have h3:zg l a d=true:=h3;exact brT ⟨rb (by show _=((isR x a&&(z7 x a 1||zg l a d))||((isW x d&&(z7 x d 2||zg s a d))||zg f a d));rw [h1,h2,h3];rfl),hbw⟩
   ·have h3:zg l a d=false:=h3;refine cmo (jD h hd) ?_;rintro e _ ⟨rfl,rfl⟩;refine biE (fun h4=>?_) fun h4=>?_
    ·have h4:isW x d=true:=h4;refine cmo (zdy (md:=2) h hd) ?_;rintro e _ ⟨rfl,rfl⟩;refine biE (fun h5=>?_) fun h5=>?_
     ·have h5:z7 x d 2=true:=h5;exact brT ⟨rb (by show _=((isR x a&&(z7 x a 1||zg l a d))||((isW x d&&(z7 x d 2||zg s a d))||zg f a d));rw [h1,h2,h3,h4,h5];rfl),hbw⟩
     ·have h5:z7 x d 2=false:=h5;refine cmo (z3 h.stores h.ws hA hD) ?_;rintro e _ ⟨rfl,rfl⟩;refine biE (fun h6=>?_) fun h6=>?_
      ·have h6:zg s a d=true:=h6;exact⟨rb (by show _=((isR x a&&(z7 x a 1||zg l a d))||((isW x d&&(z7 x d 2||zg s a d))||zg f a d));rw [h1,h2,h3,h4,h5,h6];rfl),hbw⟩
      ·have h6:zg s a d=false:=h6;refine cmo (z3 h.full h.wf hA hD) ?_;rintro e _ ⟨rfl,rfl⟩;exact⟨rb (by show _=((isR x a&&(z7 x a 1||zg l a d))||((isW x d&&(z7 x d 2||zg s a d))||zg f a d));rw [h1,h2,h3,h4,h5,h6];rfl),hbw⟩
    ·have h4:isW x d=false:=h4;refine brF (cmo (z3 h.full h.wf hA hD) ?_);rintro e _ ⟨rfl,rfl⟩;exact⟨rb (by show _=((isR x a&&(z7 x a 1||zg l a d))||((isW x d&&(z7 x d 2||zg s a d))||zg f a d));rw [h1,h2,h3,h4];rfl),hbw⟩
 ·have h1:isR x a=false:=h1;refine brF (cmo (jD h hd) ?_);rintro e _ ⟨rfl,rfl⟩;refine biE (fun h9=>?_) fun h9=>?_
  ·have h9:isW x d=true:=h9;refine cmo (zdy (md:=2) h hd) ?_;rintro e _ ⟨rfl,rfl⟩;refine biE (fun h10=>?_) fun h10=>?_
   ·have h10:z7 x d 2=true:=h10;exact brT ⟨rb (by show _=((isR x a&&(z7 x a 1||zg l a d))||((isW x d&&(z7 x d 2||zg s a d))||zg f a d));rw [h1,h9,h10];rfl),hbw⟩
   ·have h10:z7 x d 2=false:=h10;refine cmo (z3 h.stores h.ws hA hD) ?_;rintro e _ ⟨rfl,rfl⟩;refine biE (fun h11=>?_) fun h11=>?_
    ·have h11:zg s a d=true:=h11;exact⟨rb (by show _=((isR x a&&(z7 x a 1||zg l a d))||((isW x d&&(z7 x d 2||zg s a d))||zg f a d));rw [h1,h9,h10,h11];rfl),hbw⟩
    ·have h11:zg s a d=false:=h11;refine cmo (z3 h.full h.wf hA hD) ?_;rintro e _ ⟨rfl,rfl⟩;exact⟨rb (by show _=((isR x a&&(z7 x a 1||zg l a d))||((isW x d&&(z7 x d 2||zg s a d))||zg f a d));rw [h1,h9,h10,h11];rfl),hbw⟩
  ·have h9:isW x d=false:=h9;refine brF (cmo (z3 h.full h.wf hA hD) ?_);rintro e _ ⟨rfl,rfl⟩;exact⟨rb (by show _=((isR x a&&(z7 x a 1||zg l a d))||((isW x d&&(z7 x d 2||zg s a d))||zg f a d));rw [h1,h9];rfl),hbw⟩
theorem zsb {a d:Nat} (h:ScnV w b x q c f l s) (ha:a<x.ev.length) (hd:d<x.ev.length):CB 129 #[At0 b,i64 (a:Nat),i64 (d:Nat)] w (.bool (zfq 6 x f l s a d)):=by
 refine zJ 81 [At0 b,i64 (a:Nat),i64 (d:Nat)] Tryz.func129 ?_;have hn:=h.v.n;have hA:a<48:=by omega
 have hD:d<48:=by omega
 have hbw:=Gc w.heap.size w;refine cmo (z3 (zgg h.cells (zuF x q c)) h.v.dt hA hD) ?_;rintro e _ ⟨rfl,rfl⟩;refine biE (fun h1=>?_) fun h1=>?_
 ·have h1:zg x.dt a d=true:=h1;exact brT (brT (brT (brT ⟨rb (by show _=(zg x.dt a d||((zg x.ct a d&&isW x d)||(zg x.rm a d||(zg f a d||((zg l a d&&(isR x a&&isR x d))||(zg s a d&&(isW x a&&isW x d)))))));rw [h1];rfl),hbw⟩)))
 ·have h1:zg x.dt a d=false:=h1;refine cmo (z3 (zgg h.cells (zuG x q c)) h.v.ct hA hD) ?_;rintro e _ ⟨rfl,rfl⟩;refine biE (fun h2=>?_) fun h2=>?_
  ·have h2:zg x.ct a d=true:=h2;refine cmo (jD h hd) ?_;rintro e _ ⟨rfl,rfl⟩;refine biE (fun h3=>?_) fun h3=>?_
   ·have h3:isW x d=true:=h3;exact brT (brT (brT ⟨rb (by show _=(zg x.dt a d||((zg x.ct a d&&isW x d)||(zg x.rm a d||(zg f a d||((zg l a d&&(isR x a&&isR x d))||(zg s a d&&(isW x a&&isW x d)))))));rw [h1,h2,h3];rfl),hbw⟩))
   ·have h3:isW x d=false:=h3;refine cmo (z3 (zgg h.cells (zq5 x q c)) h.v.rm hA hD) ?_;rintro e _ ⟨rfl,rfl⟩;refine biE (fun h4=>?_) fun h4=>?_
    ·have h4:zg x.rm a d=true:=h4;exact brT (brT ⟨rb (by show _=(zg x.dt a d||((zg x.ct a d&&isW x d)||(zg x.rm a d||(zg f a d||((zg l a d&&(isR x a&&isR x d))||(zg s a d&&(isW x a&&isW x d)))))));rw [h1,h2,h3,h4];rfl),hbw⟩)
    ·have h4:zg x.rm a d=false:=h4;refine cmo (z3 h.full h.wf hA hD) ?_;rintro e _ ⟨rfl,rfl⟩;refine biE (fun h5=>?_) fun h5=>?_
     ·have h5:zg f a d=true:=h5;exact brT ⟨rb (by show _=(zg x.dt a d||((zg x.ct a d&&isW x d)||(zg x.rm a d||(zg f a d||((zg l a d&&(isR x a&&isR x d))||(zg s a d&&(isW x a&&isW x d)))))));rw [h1,h2,h3,h4,h5];rfl),hbw⟩
     ·have h5:zg f a d=false:=h5;refine cmo (z3 h.loads h.wl hA hD) ?_;rintro e _ ⟨rfl,rfl⟩;refine biE (fun h6=>?_) fun h6=>?_
      ·have h6:zg l a d=true:=h6;refine cmo (zeI h ha) ?_;rintro e _ ⟨rfl,rfl⟩;refine biE (fun h7=>?_) fun h7=>?_
       ·have h7:isR x a=true:=h7;refine cmo (zeI h hd) ?_;rintro e _ ⟨rfl,rfl⟩;refine biE (fun h8=>?_) fun h8=>?_
        ·have h8:isR x d=true:=h8;exact⟨rb (by show _=(zg x.dt a d||((zg x.ct a d&&isW x d)||(zg x.rm a d||(zg f a d||((zg l a d&&(isR x a&&isR x d))||(zg s a d&&(isW x a&&isW x d)))))));rw [h1,h2,h3,h4,h5,h6,h7,h8];rfl),hbw⟩
        ·have h8:isR x d=false:=h8;refine cmo (z3 h.stores h.ws hA hD) ?_;rintro e _ ⟨rfl,rfl⟩;refine biE (fun h9=>?_) fun h9=>?_
         ·have h9:zg s a d=true:=h9;refine cmo (jD h ha) ?_;rintro e _ ⟨rfl,rfl⟩;refine biE (fun h10=>?_) fun h10=>?_
          ·have h10:isW x a=true:=h10;refine cmo (jD h hd) ?_;rintro e _ ⟨rfl,rfl⟩;exact⟨rb (by show _=(zg x.dt a d||((zg x.ct a d&&isW x d)||(zg x.rm a d||(zg f a d||((zg l a d&&(isR x a&&isR x d))||(zg s a d&&(isW x a&&isW x d)))))));rw [h1,h2,h3,h4,h5,h6,h7,h8,h9,h10];rfl),hbw⟩
          ·have h10:isW x a=false:=h10;exact⟨rb (by show _=(zg x.dt a d||((zg x.ct a d&&isW x d)||(zg x.rm a d||(zg f a d||((zg l a d&&(isR x a&&isR x d))||(zg s a d&&(isW x a&&isW x d)))))));rw [h1,h2,h3,h4,h5,h6,h7,h8,h9,h10];rfl),hbw⟩
         ·have h9:zg s a d=false:=h9;exact brF ⟨rb (by show _=(zg x.dt a d||((zg x.ct a d&&isW x d)||(zg x.rm a d||(zg f a d||((zg l a d&&(isR x a&&isR x d))||(zg s a d&&(isW x a&&isW x d)))))));rw [h1,h2,h3,h4,h5,h6,h7,h8,h9];rfl),hbw⟩
       ·have h7:isR x a=false:=h7;refine brF (cmo (z3 h.stores h.ws hA hD) ?_);rintro e _ ⟨rfl,rfl⟩;refine biE (fun h12=>?_) fun h12=>?_
        ·have h12:zg s a d=true:=h12;refine cmo (jD h ha) ?_;rintro e _ ⟨rfl,rfl⟩;refine biE (fun h13=>?_) fun h13=>?_
         ·have h13:isW x a=true:=h13;refine cmo (jD h hd) ?_;rintro e _ ⟨rfl,rfl⟩;exact⟨rb (by show _=(zg x.dt a d||((zg x.ct a d&&isW x d)||(zg x.rm a d||(zg f a d||((zg l a d&&(isR x a&&isR x d))||(zg s a d&&(isW x a&&isW x d)))))));rw [h1,h2,h3,h4,h5,h6,h7,h12,h13];rfl),hbw⟩
         ·have h13:isW x a=false:=h13;exact⟨rb (by show _=(zg x.dt a d||((zg x.ct a d&&isW x d)||(zg x.rm a d||(zg f a d||((zg l a d&&(isR x a&&isR x d))||(zg s a d&&(isW x a&&isW x d)))))));rw [h1,h2,h3,h4,h5,h6,h7,h12,h13];rfl),hbw⟩
        ·have h12:zg s a d=false:=h12;exact brF ⟨rb (by show _=(zg x.dt a d||((zg x.ct a d&&isW x d)||(zg x.rm a d||(zg f a d||((zg l a d&&(isR x a&&isR x d))||(zg s a d&&(isW x a&&isW x d)))))));rw [h1,h2,h3,h4,h5,h6,h7,h12];rfl),hbw⟩
      ·have h6:zg l a d=false:=h6;refine brF (brF (cmo (z3 h.stores h.ws hA hD) ?_));rintro e _ ⟨rfl,rfl⟩;refine biE (fun h15=>?_) fun h15=>?_
       ·have h15:zg s a d=true:=h15;refine cmo (jD h ha) ?_;rintro e _ ⟨rfl,rfl⟩;refine biE (fun h16=>?_) fun h16=>?_
        ·have h16:isW x a=true:=h16;refine cmo (jD h hd) ?_;rintro e _ ⟨rfl,rfl⟩;exact⟨rb (by show _=(zg x.dt a d||((zg x.ct a d&&isW x d)||(zg x.rm a d||(zg f a d||((zg l a d&&(isR x a&&isR x d))||(zg s a d&&(isW x a&&isW x d)))))));rw [h1,h2,h3,h4,h5,h6,h15,h16];rfl),hbw⟩
        ·have h16:isW x a=false:=h16;exact⟨rb (by show _=(zg x.dt a d||((zg x.ct a d&&isW x d)||(zg x.rm a d||(zg f a d||((zg l a d&&(isR x a&&isR x d))||(zg s a d&&(isW x a&&isW x d)))))));rw [h1,h2,h3,h4,h5,h6,h15,h16];rfl),hbw⟩
       ·have h15:zg s a d=false:=h15;exact brF ⟨rb (by show _=(zg x.dt a d||((zg x.ct a d&&isW x d)||(zg x.rm a d||(zg f a d||((zg l a d&&(isR x a&&isR x d))||(zg s a d&&(isW x a&&isW x d)))))));rw [h1,h2,h3,h4,h5,h6,h15];rfl),hbw⟩
  ·have h2:zg x.ct a d=false:=h2;refine brF (cmo (z3 (zgg h.cells (zq5 x q c)) h.v.rm hA hD) ?_);rintro e _ ⟨rfl,rfl⟩;refine biE (fun h18=>?_) fun h18=>?_
   ·have h18:zg x.rm a d=true:=h18;exact brT (brT ⟨rb (by show _=(zg x.dt a d||((zg x.ct a d&&isW x d)||(zg x.rm a d||(zg f a d||((zg l a d&&(isR x a&&isR x d))||(zg s a d&&(isW x a&&isW x d)))))));rw [h1,h2,h18];rfl),hbw⟩)
   ·have h18:zg x.rm a d=false:=h18;refine cmo (z3 h.full h.wf hA hD) ?_;rintro e _ ⟨rfl,rfl⟩;refine biE (fun h19=>?_) fun h19=>?_
    ·have h19:zg f a d=true:=h19;exact brT ⟨rb (by show _=(zg x.dt a d||((zg x.ct a d&&isW x d)||(zg x.rm a d||(zg f a d||((zg l a d&&(isR x a&&isR x d))||(zg s a d&&(isW x a&&isW x d)))))));rw [h1,h2,h18,h19];rfl),hbw⟩
    ·have h19:zg f a d=false:=h19;refine cmo (z3 h.loads h.wl hA hD) ?_;rintro e _ ⟨rfl,rfl⟩;refine biE (fun h20=>?_) fun h20=>?_
     ·have h20:zg l a d=true:=h20;refine cmo (zeI h ha) ?_;rintro e _ ⟨rfl,rfl⟩;refine biE (fun h21=>?_) fun h21=>?_
      ·have h21:isR x a=true:=h21;refine cmo (zeI h hd) ?_;rintro e _ ⟨rfl,rfl⟩;refine biE (fun h22=>?_) fun h22=>?_
       ·have h22:isR x d=true:=h22;exact⟨rb (by show _=(zg x.dt a d||((zg x.ct a d&&isW x d)||(zg x.rm a d||(zg f a d||((zg l a d&&(isR x a&&isR x d))||(zg s a d&&(isW x a&&isW x d)))))));rw [h1,h2,h18,h19,h20,h21,h22];rfl),hbw⟩
       ·have h22:isR x d=false:=h22;refine cmo (z3 h.stores h.ws hA hD) ?_;rintro e _ ⟨rfl,rfl⟩;refine biE (fun h23=>?_) fun h23=>?_
        ·have h23:zg s a d=true:=h23;refine cmo (jD h ha) ?_;rintro e _ ⟨rfl,rfl⟩;refine biE (fun h24=>?_) fun h24=>?_
         ·have h24:isW x a=true:=h24;refine cmo (jD h hd) ?_;rintro e _ ⟨rfl,rfl⟩;exact⟨rb (by show _=(zg x.dt a d||((zg x.ct a d&&isW x d)||(zg x.rm a d||(zg f a d||((zg l a d&&(isR x a&&isR x d))||(zg s a d&&(isW x a&&isW x d)))))));rw [h1,h2,h18,h19,h20,h21,h22,h23,h24];rfl),hbw⟩
         ·have h24:isW x a=false:=h24;exact⟨rb (by show _=(zg x.dt a d||((zg x.ct a d&&isW x d)||(zg x.rm a d||(zg f a d||((zg l a d&&(isR x a&&isR x d))||(zg s a d&&(isW x a&&isW x d)))))));rw [h1,h2,h18,h19,h20,h21,h22,h23,h24];rfl),hbw⟩
        ·have h23:zg s a d=false:=h23;exact brF ⟨rb (by show _=(zg x.dt a d||((zg x.ct a d&&isW x d)||(zg x.rm a d||(zg f a d||((zg l a d&&(isR x a&&isR x d))||(zg s a d&&(isW x a&&isW x d)))))));rw [h1,h2,h18,h19,h20,h21,h22,h23];rfl),hbw⟩
      ·have h21:isR x a=false:=h21;refine brF (cmo (z3 h.stores h.ws hA hD) ?_);rintro e _ ⟨rfl,rfl⟩;refine biE (fun h26=>?_) fun h26=>?_
       ·have h26:zg s a d=true:=h26;refine cmo (jD h ha) ?_;rintro e _ ⟨rfl,rfl⟩;refine biE (fun h27=>?_) fun h27=>?_
        ·have h27:isW x a=true:=h27;refine cmo (jD h hd) ?_;rintro e _ ⟨rfl,rfl⟩;exact⟨rb (by show _=(zg x.dt a d||((zg x.ct a d&&isW x d)||(zg x.rm a d||(zg f a d||((zg l a d&&(isR x a&&isR x d))||(zg s a d&&(isW x a&&isW x d)))))));rw [h1,h2,h18,h19,h20,h21,h26,h27];rfl),hbw⟩
        ·have h27:isW x a=false:=h27;exact⟨rb (by show _=(zg x.dt a d||((zg x.ct a d&&isW x d)||(zg x.rm a d||(zg f a d||((zg l a d&&(isR x a&&isR x d))||(zg s a d&&(isW x a&&isW x d)))))));rw [h1,h2,h18,h19,h20,h21,h26,h27];rfl),hbw⟩
       ·have h26:zg s a d=false:=h26;exact brF ⟨rb (by show _=(zg x.dt a d||((zg x.ct a d&&isW x d)||(zg x.rm a d||(zg f a d||((zg l a d&&(isR x a&&isR x d))||(zg s a d&&(isW x a&&isW x d)))))));rw [h1,h2,h18,h19,h20,h21,h26];rfl),hbw⟩
     ·have h20:zg l a d=false:=h20;refine brF (brF (cmo (z3 h.stores h.ws hA hD) ?_));rintro e _ ⟨rfl,rfl⟩;refine biE (fun h29=>?_) fun h29=>?_
      ·have h29:zg s a d=true:=h29;refine cmo (jD h ha) ?_;rintro e _ ⟨rfl,rfl⟩;refine biE (fun h30=>?_) fun h30=>?_
       ·have h30:isW x a=true:=h30;refine cmo (jD h hd) ?_;rintro e _ ⟨rfl,rfl⟩;exact⟨rb (by show _=(zg x.dt a d||((zg x.ct a d&&isW x d)||(zg x.rm a d||(zg f a d||((zg l a d&&(isR x a&&isR x d))||(zg s a d&&(isW x a&&isW x d)))))));rw [h1,h2,h18,h19,h20,h29,h30];rfl),hbw⟩
       ·have h30:isW x a=false:=h30;exact⟨rb (by show _=(zg x.dt a d||((zg x.ct a d&&isW x d)||(zg x.rm a d||(zg f a d||((zg l a d&&(isR x a&&isR x d))||(zg s a d&&(isW x a&&isW x d)))))));rw [h1,h2,h18,h19,h20,h29,h30];rfl),hbw⟩
      ·have h29:zg s a d=false:=h29;exact brF ⟨rb (by show _=(zg x.dt a d||((zg x.ct a d&&isW x d)||(zg x.rm a d||(zg f a d||((zg l a d&&(isR x a&&isR x d))||(zg s a d&&(isW x a&&isW x d)))))));rw [h1,h2,h18,h19,h20,h29];rfl),hbw⟩
end
abbrev zc8:List Value:=[.nilFunc,.func (.func 120) #[] #[],.func (.func 121) #[] #[],.func (.func 122) #[] #[],.func (.func 126) #[] #[],.func (.func 127) #[] #[],.func (.func 129) #[] #[]]
section
variable {b c:Nat} {x:ExD} {q:OA} {w:Wd} {f l s:RelD}
theorem zsa:CB 94 #[] w (.agg zc8.toArray):=by
 refine qz 8 [] (.c .p .p) Tryz.func94 ?_;obtain⟨L,hL⟩:=nm (w.heap.size);refine⟨Unit,fun _=>⟨[(0,At0 L)],[]⟩,fun _ X=>X.heap[L]?=some (.cells #[.nilFunc,.nilFunc,.nilFunc,.nilFunc,.nilFunc,.nilFunc,.nilFunc] 162 (0,0))/\Bw w X,⟨(),⟨.cons (by rw [hL];rfl) .nil,rfl⟩,by rw [hL];exact zw w _,(zba w _)⟩,?_⟩;rintro _ X ⟨f0,hbX⟩;refine⟨[.func (.func 120) #[] #[]],by kernel_rfl,?_⟩;refine⟨[.func (.func 121) #[] #[]],by kernel_rfl,?_⟩;refine⟨[.func (.func 122) #[] #[]],by kernel_rfl,?_⟩;refine⟨[.func (.func 126) #[] #[]],by kernel_rfl,?_⟩;refine⟨[.func (.func 127) #[] #[]],by kernel_rfl,?_⟩;refine⟨[.func (.func 129) #[] #[]],by kernel_rfl,?_⟩;refine⟨zc8,by kernel_rfl,?_⟩;refine zt (v := .agg zc8.toArray) zvt f0 rfl rfl rfl ?_;exact⟨zc8,rfl,za (zn f0),rfl,zl hbX (by omega) _⟩
theorem zed {S Rb Mb Sv g a d:Nat} {m:UInt8} {K:Bool} (hs:ScnV w S x q c f l s) (fSv:w.heap[Sv]?=some (.cells #[At0 S] 155 (0,0))) (fR:w.heap[Rb]?=some (.cells zc8.toArray 162 (0,0))) (fM:w.heap[Mb]?=some (.cells #[u8 m] 5 (0,0)))
  (hm7:m.toNat<7) (hm:zc8[m.toNat]?=some (.func (.func g) #[] #[])) (hok:jZ (sg 0) g=true) (hK:∀ X,Bw w X->Calls PG g #[At0 S,i64 (a:Nat),i64 (d:Nat)] X fun e Y=>e = .returned (.bool K)/\Bw X Y) (ha:a<x.ev.length) (hd:d<x.ev.length) :
  CB 95 #[i64 (a:Nat),i64 (d:Nat),At0 Sv,At0 Rb,At0 Mb] w (.bool (zg x.po a d&&(zbN x a&&(zbN x d&&K)))):=by
 refine zJ 47 [i64 (a:Nat),i64 (d:Nat),At0 Sv,At0 Rb,At0 Mb] Tryz.func95 ?_;have hn:=hs.v.n;have fx:=hs.cells;obtain⟨bq,oq,hqe,hb,hat⟩:=zcz hs.v.ev ha;obtain⟨bq2,oq2,hqe2,hb2,hat2⟩:=zcz hs.v.ev hd;rw [hqe] at hqe2;simp only [Qa,Uv,Gj] at hqe2;rw [<- hqe2.1,<- hqe2.2] at hat2;have hpo:=hs.v.po;subst hqe;have dw:Bw w w.drew:=(Gc _ _).drew;refine DrawE.ord [] [0,1,2,3,4,5,6,7,8,9,10,11,12,13,14,15,16,17,18,19,20,21,22,23,24,25,26,27,28,29,30,31,32,33,34,35,36,37,38,39] (by kernel_rfl) ?_;refine⟨At0 S,zc (za (hdr fSv)) (i:=0) rfl,?_⟩;refine cmo (z3 (zgg (zr dw fx) (zq6 x _ c)) hpo (by omega) (by omega)) ?_;rintro e _ ⟨rfl,rfl⟩;refine⟨Gc _ _,?_⟩;refine biE (fun h1=>?_) fun h1=>?_
 ·have h1:zg x.po a d=true:=h1;refine⟨At0 S,zc (za (hdr fSv)) (i:=0) rfl,?_⟩;refine⟨_,zaE (zr dw fx),?_⟩;refine⟨a,rfl,ha,?_⟩;refine⟨evE.enc (evA x a),rfl,zr dw hat,nL hb dw.size,?_⟩;refine cmo zfL ?_;rintro e X ⟨rfl,hbX⟩;refine⟨hbX,?_⟩;have bX:=dw.trans hbX;rw [zky];refine biE (fun h2=>?_) fun h2=>?_
  ·have h2:zbN x a=true:=h2;refine⟨At0 S,zc (za (zb bX fSv)) (i:=0) rfl,?_⟩;refine⟨_,zaE (zr bX fx),?_⟩;refine⟨d,rfl,hd,?_⟩;refine⟨evE.enc (evA x d),rfl,zr bX hat2,nL hb bX.size,?_⟩;refine cmo zfL ?_;rintro e Y ⟨rfl,hbY⟩;refine⟨hbY,?_⟩;have bY:=zst bX hbY;rw [zky];refine biE (fun h3=>?_) fun h3=>?_
   ·have h3:zbN x d=true:=h3;refine⟨u8 m,zc (za (zb bY fM)) (i:=0) rfl,?_⟩;refine⟨m.toNat,rfl,hm7,?_⟩;refine⟨.func (.func g) #[] #[],by have:=zc (za (zb bY fR)) (i:=m.toNat) (v := .func (.func g) #[] #[]) hm;rw [UY];exact this,?_⟩;refine⟨At0 S,zc (za (zb bY fSv)) (i:=0) rfl,?_⟩;refine ziw hok (hK Y bY) ?_;rintro e Z ⟨rfl,hbZ⟩;refine⟨_,rfl,hbZ,?_⟩;exact⟨rb (by rw [h1,h2,h3];rfl),(zst bY hbZ)⟩
   ·have h3:zbN x d=false:=h3;exact⟨rb (by rw [h1,h2,h3];rfl),bY⟩
  ·have h2:zbN x a=false:=h2;refine brF ?_;exact⟨rb (by rw [h1,h2];rfl),bX⟩
 ·have h1:zg x.po a d=false:=h1;refine brF ?_;refine brF ?_;exact⟨rb (by rw [h1];rfl),dw⟩
theorem zlH {m:UInt8} (h:zal m.toNat=true):m=1\/m=2\/m=3\/m=4\/m=5\/m=6:=by
 unfold zal at h;rw [bAT,dE,dE] at h;simp only [<- Uh];show m.toNat=1\/m.toNat=2\/m.toNat=3\/m.toNat=4\/m.toNat=5\/m.toNat=6;omega
theorem zsB {S Rb Mb Sv a d:Nat} {m:UInt8} (hk:zal m.toNat=true) (hs:ScnV w S x q c f l s) (fSv:w.heap[Sv]?=some (.cells #[At0 S] 155 (0,0))) (fR:w.heap[Rb]?=some (.cells zc8.toArray 162 (0,0))) (fM:w.heap[Mb]?=some (.cells #[u8 m] 5 (0,0)))
  (ha:a<x.ev.length) (hd:d<x.ev.length) :
  CB 95 #[i64 (a:Nat),i64 (d:Nat),At0 Sv,At0 Rb,At0 Mb] w (.bool (zg x.po a d&&(zbN x a&&(zbN x d&&zfq m.toNat x f l s a d)))):=by
 rcases zlH hk with rfl | rfl | rfl | rfl | rfl | rfl
 ·exact zed (g:=120) hs fSv fR fM (by decide) rfl (by kernel_rfl) (fun X hb=>zsg) ha hd
 ·exact zed (g:=121) hs fSv fR fM (by decide) rfl (by kernel_rfl) (fun X hb=>zsf) ha hd
 ·exact zed (g:=122) hs fSv fR fM (by decide) rfl (by kernel_rfl) (fun X hb=>zse (hs.below hb) ha hd) ha hd
 ·exact zed (g:=126) hs fSv fR fM (by decide) rfl (by kernel_rfl) (fun X hb=>zsd (hs.below hb) ha hd) ha hd
 ·exact zed (g:=127) hs fSv fR fM (by decide) rfl (by kernel_rfl) (fun X hb=>zsc (hs.below hb) ha hd) ha hd
 ·exact zed (g:=129) hs fSv fR fM (by decide) rfl (by kernel_rfl) (fun X hb=>zsb (hs.below hb) ha hd) ha hd
theorem zj2 {X:Wd} {S o:Nat} {T:TypeId} {A Z:List Value} {r0 r:RelD} (h:X.heap[S]?=some (.cells (A++(zf r0++Z)).toArray T (0,0))) (hA:A.length=o) {K:Wd->Prop}
  (k:∀ Y,Y.heap[S]?=some (.cells (A++(zf r++Z)).toArray T (0,0))->X.grownBy Y (some S)->Y.heap.size=X.heap.size->K Y) :
  SatR ((storeVar 39 ⟨S,0+o,none⟩ (.agg (zf r).toArray)).run PG X) fun _ w'=>K w':=by
 rw [US];refine j7 k39 h (o:=o) (v := .agg (zf r).toArray) (zh _) (by show o+(zf r).length<=(A++(zf r0++Z)).length;rw [lap,lap,zh,zh];omega) (zF _) fun Y fY gY sY=>k Y (fY.trans ?_) gY sY;show some (Obj.cells ((A++(zf r0++Z)).take o++zf r++(A++(zf r0++Z)).drop (o+(zf r).length)).toArray T (0,0))=_;congr 3;rw [<- hA,List.take_left,zh,KQ,<- Ul,Um,<- zh r0,Um]
theorem zuy {m:UInt8} (hk:zal m.toNat=true) (fx:ExH w b x q c) (hv:ExW w x q) (hT:Tz64M w):CB 57 #[u8 m,At0 b] w (.agg (zf (za4 m.toNat x)).toArray):=by
 refine qz 35 [u8 m,At0 b] (.c .p (.c .p (.c .p (.c .p (.c .p .p))))) Tryz.func57 ?_;obtain⟨L,hL⟩:=nm (w.heap.size);have hn:=hv.n;refine⟨Unit,fun _=>⟨[(1,At0 b),(2,At0 L),(4,At0 (L+1))],[]⟩,fun _ X=>X.heap[L]?=some (.cells #[u8 m] 5 (0,0))/\z9 X (L+1) zz/\X.heap.size=L+2/\Bw w X,?_,?_⟩
 ·have s1:=wz w (.cells #[u8 m] 5);have h2:=zw (w.alloc (.cells #[u8 m] 5)) (.cells (zf zz).toArray 39);have s2:=wz (w.alloc (.cells #[u8 m] 5)) (.cells (zf zz).toArray 39);rw [s1] at h2 s2;have b1:Bw w (w.alloc (.cells #[u8 m] 5)):=zba w _;exact⟨(),⟨.cons rfl (.cons (by rw [hL];rfl) (.cons (by rw [hL,<- s1];rfl) .nil)),rfl⟩,by rw [hL];exact qP _ (zw w _),by rw [hL];exact h2,by rw [hL];exact s2,b1.alloc b1.size _⟩
 rintro _ X ⟨fM,f0,sX,hbX⟩;have fX:=zb hbX fx;refine⟨Unit,fun _=>⟨[(1,At0 b),(2,At0 L),(4,At0 (L+1)),(5,At0 (L+3))],[]⟩,fun _ Y=>Y.heap[L+2]?=some (.cells (exC x q c++(zf zz++(zf zz++zf zz))).toArray 157 (0,0))/\Y.heap[L+3]?=some (.cells #[At0 (L+2)] 155 (0,0))/\Y.heap.size=L+4/\Bw X Y,?_,?_⟩
 ·refine⟨exC x q c,zC _ _ _,za fX,hlt fX,?_⟩;refine⟨exC x q c++(zf zz++(zf zz++zf zz)),by kernel_rfl,?_⟩;have s3:=wz X (.cells (exC x q c++(zf zz++(zf zz++zf zz))).toArray 157);refine zo (X:=X.alloc (.cells (exC x q c++(zf zz++(zf zz++zf zz))).toArray 157)) (v := .pointer (some ⟨X.heap.size,0,none⟩)) zvW rfl rfl rfl fun Z hbZ fZ sZ=>?_;rw [s3] at fZ sZ;rw [sX] at fZ sZ s3;have b1:Bw X (X.alloc (.cells (exC x q c++(zf zz++(zf zz++zf zz))).toArray 157)):=zba X _;refine⟨(),⟨.cons rfl (.cons rfl (.cons rfl (.cons (by rw [<- s3];rfl) .nil))),rfl⟩,?_,fZ,sZ,(zst b1 hbZ)⟩;refine zb hbZ ?_;rw [<- sX];exact zw X _
 rintro _ Y ⟨fS,fP,sY,hbY⟩;have hbwY:=zst hbX hbY;have fY:=zb hbwY fx;replace fM:=zb hbY fM;replace f0:=zb hbY f0;have hwX:=hbX.size;have hbL:b<L:=by rw [hL];exact hlt fx
 refine⟨Unit,fun _=>⟨[(1,At0 b),(2,At0 L),(4,At0 (L+1)),(5,At0 (L+3))],[]⟩,fun _ Z=>ScnV Z (L+2) x q c (zX x 3) (zX x 4) (zX x 5)/\Z.heap[L+3]?=some (.cells #[At0 (L+2)] 155 (0,0))/\Z.heap[L]?=some (.cells #[u8 m] 5 (0,0))/\z9 Z (L+1) zz/\ExH Z b x q c/\L+4<=Z.heap.size/\Bw w Z,?_,?_⟩
 ·have dY:Bw Y Y.drew:=(Gc _ _).drew;obtain⟨Y1,hY1⟩:=nm (Y.drew);have bY1:Bw Y Y1:=by rw [hY1];exact dY
  have ld0:∀ {W},Bw Y W->W.cell? ⟨L+3,0,none⟩=some (At0 (L+2)):=fun hW=>by
   have h2:=zc (za (zb hW fP)) (i:=0) (v:=At0 (L+2)) rfl;exact h2
  have fen:∀ (md:UInt8) {W},Bw Y W->CB 93 #[At0 b,u8 md] W (.agg (zf (zX x md)).toArray):=fun md {W} hW =>
   have h2:=zst hbwY hW
   zq3 (zb h2 fx) (hv.below h2) (hT.below h2)
  have ld1:∀ W,(∃ C,Bw Y C/\C.grownBy W (some (L+2)))->W.cell? ⟨L+3,0,none⟩=some (At0 (L+2)):=fun W ⟨C,bC,hW⟩=>by
   have fPC:=zb bC fP;have:=(hW.block (L+3) (hlt fPC) (by simp)).trans fPC;have h2:=zc (za this) (i:=0) (v:=At0 (L+2)) rfl;exact h2
  have s1:∀ {C},Bw Y C->∀ {K:Wd->Prop},(∀ D,(D.heap[L+2]?=some (.cells ((exC x q c++zf (zX x 3))++(zf zz++zf zz)).toArray 157 (0,0))/\∃ C,Bw Y C/\C.grownBy D (some (L+2)))->K D)->SatR ((storeVar 39 ⟨L+2,0+333,none⟩ (.agg (zf (zX x 3)).toArray)).run PG C) fun _ w'=>K w':=fun {C} bC {K} k =>
   zj2 (o:=333) (A:=exC x q c) (Z:=zf zz++zf zz) (r:=zX x 3) (zb bC fS) (zC _ _ _) fun D fD gD sD=>k D ⟨by rw [fD];simp only [KQ],C,bC,gD⟩
  have s2:∀ D,(D.heap[L+2]?=some (.cells ((exC x q c++zf (zX x 3))++(zf zz++zf zz)).toArray 157 (0,0))/\∃ C,Bw Y C/\C.grownBy D (some (L+2)))->∀ {K:Wd->Prop},(∀ F,(F.heap[L+2]?=some (.cells ((exC x q c++(zf (zX x 3)++zf (zX x 4)))++(zf zz++[])).toArray 157 (0,0))/\∃ C,Bw Y C/\C.grownBy F (some (L+2)))->K F)->SatR ((storeVar 39 ⟨L+2,0+382,none⟩ (.agg (zf (zX x 4)).toArray)).run PG D) fun _ w'=>K w':=fun D ⟨fD,C,bC,gD⟩ {K} k =>
   zj2 (o:=382) (A:=exC x q c++zf (zX x 3)) (Z:=zf zz) (r:=zX x 4) fD (by rw [lap,zC,zh]) fun F fF gF sF=>k F ⟨by rw [fF];simp only [KQ,QL],C,bC,zd gD gF⟩
  have pw:∀ md,zI (zX x md).to:=fun md=>zdx (zdx hv.po fun i hi=>by
   unfold idR;refine zen (fun i _ h48=>?_) i hi;exact KF Qz (qa (by omega))) hv.po
  have s3:∀ F,(F.heap[L+2]?=some (.cells ((exC x q c++(zf (zX x 3)++zf (zX x 4)))++(zf zz++[])).toArray 157 (0,0))/\∃ C,Bw Y C/\C.grownBy F (some (L+2)))->∀ {K:Wd->Prop},(∀ G,(ScnV G (L+2) x q c (zX x 3) (zX x 4) (zX x 5)/\G.heap[L+3]?=some (.cells #[At0 (L+2)] 155 (0,0))/\G.heap[L]?=some (.cells #[u8 m] 5 (0,0))/\z9 G (L+1) zz/\ExH G b x q c/\L+4<=G.heap.size/\Bw w G)->K G)->SatR ((storeVar 39 ⟨L+2,0+431,none⟩ (.agg (zf (zX x 5)).toArray)).run PG F) fun _ w'=>K w':=fun F ⟨fF,C,bC,gF⟩ {K} k =>
   zj2 (o:=431) (A:=exC x q c++(zf (zX x 3)++zf (zX x 4))) (Z:=[]) (r:=zX x 5) fF (by rw [lap,lap,zC,zh,zh]) fun G fG gG sG=>k G (by
    have gCG:C.grownBy G (some (L+2)):=zd gF gG;have bwC:=zst hbwY bC;have bCG:Below w.heap.size C G:=zk gCG bwC.size (by omega);have bwG:Bw w G:=bwC.trans bCG;have keep:∀ {j:Nat} {o:Obj},j≠L+2->Y.heap[j]?=some o->G.heap[j]?=some o:=fun {j o} hj h=>by
     have h2:=zb bC h;exact (gCG.block j (hlt h2) (by simpa using hj)).trans h2
    refine⟨⟨?_,hv.below bwG,pw 3,pw 4,pw 5⟩,keep (by omega) fP,keep (by omega) fM,keep (by omega) f0,keep (by omega) fY,by have:=bC.size;have:=gCG.size;omega,bwG⟩;rw [fG];simp only [KQ,QL])
  refine DrawE.treeR [11,14,17] (.op 0 (.op 3 (.op 5 (.op 7 (.alt (.op 4 (.alt (.op 6 (.alt (.op 8 (.op 9 (.op 10 (.alt (.op 11 (.alt (.op 1 (.op 12 (.op 13 (.alt (.op 14 (.op 2 (.op 15 (.op 16 (.op 17 (.nil)))))) (.op 2 (.op 14 (.op 15 (.op 16 (.op 17 (.nil)))))))))) (.op 2 (.op 1 (.op 12 (.op 13 (.op 14 (.op 15 (.op 16 (.op 17 (.nil))))))))))) (.alt (.op 1 (.alt (.op 11 (.op 12 (.op 13 (.alt (.op 14 (.op 2 (.op 15 (.op 16 (.op 17 (.nil)))))) (.op 2 (.op 14 (.op 15 (.op 16 (.op 17 (.nil)))))))))) (.op 2 (.op 11 (.op 12 (.op 13 (.op 14 (.op 15 (.op 16 (.op 17 (.nil))))))))))) (.op 2 (.alt (.op 11 (.op 1 (.op 12 (.op 13 (.op 14 (.op 15 (.op 16 (.op 17 (.nil))))))))) (.op 1 (.op 11 (.op 12 (.op 13 (.op 14 (.op 15 (.op 16 (.op 17 (.nil)))))))))))))))) (.alt (.op 1 (.alt (.op 8 (.op 9 (.op 10 (.alt (.op 11 (.op 12 (.op 13 (.alt (.op 14 (.op 2 (.op 15 (.op 16 (.op 17 (.nil)))))) (.op 2 (.op 14 (.op 15 (.op 16 (.op 17 (.nil)))))))))) (.op 2 (.op 11 (.op 12 (.op 13 (.op 14 (.op 15 (.op 16 (.op 17 (.nil))))))))))))) (.op 2 (.op 8 (.op 9 (.op 10 (.op 11 (.op 12 (.op 13 (.op 14 (.op 15 (.op 16 (.op 17 (.nil)))))))))))))) (.op 2 (.alt (.op 8 (.op 9 (.op 10 (.alt (.op 11 (.op 1 (.op 12 (.op 13 (.op 14 (.op 15 (.op 16 (.op 17 (.nil))))))))) (.op 1 (.op 11 (.op 12 (.op 13 (.op 14 (.op 15 (.op 16 (.op 17 (.nil))))))))))))) (.op 1 (.op 8 (.op 9 (.op 10 (.op 11 (.op 12 (.op 13 (.op 14 (.op 15 (.op 16 (.op 17 (.nil))))))))))))))))) (.alt (.op 1 (.alt (.op 6 (.alt (.op 8 (.op 9 (.op 10 (.alt (.op 11 (.op 12 (.op 13 (.alt (.op 14 (.op 2 (.op 15 (.op 16 (.op 17 (.nil)))))) (.op 2 (.op 14 (.op 15 (.op 16 (.op 17 (.nil)))))))))) (.op 2 (.op 11 (.op 12 (.op 13 (.op 14 (.op 15 (.op 16 (.op 17 (.nil))))))))))))) (.op 2 (.op 8 (.op 9 (.op 10 (.op 11 (.op 12 (.op 13 (.op 14 (.op 15 (.op 16 (.op 17 (.nil)))))))))))))) (.op 2 (.op 6 (.op 8 (.op 9 (.op 10 (.op 11 (.op 12 (.op 13 (.op 14 (.op 15 (.op 16 (.op 17 (.nil))))))))))))))) (.op 2 (.alt (.op 6 (.alt (.op 8 (.op 9 (.op 10 (.alt (.op 11 (.op 1 (.op 12 (.op 13 (.op 14 (.op 15 (.op 16 (.op 17 (.nil))))))))) (.op 1 (.op 11 (.op 12 (.op 13 (.op 14 (.op 15 (.op 16 (.op 17 (.nil))))))))))))) (.op 1 (.op 8 (.op 9 (.op 10 (.op 11 (.op 12 (.op 13 (.op 14 (.op 15 (.op 16 (.op 17 (.nil)))))))))))))) (.op 1 (.op 6 (.op 8 (.op 9 (.op 10 (.op 11 (.op 12 (.op 13 (.op 14 (.op 15 (.op 16 (.op 17 (.nil)))))))))))))))))) (.alt (.op 1 (.alt (.op 4 (.alt (.op 6 (.alt (.op 8 (.op 9 (.op 10 (.alt (.op 11 (.op 12 (.op 13 (.alt (.op 14 (.op 2 (.op 15 (.op 16 (.op 17 (.nil)))))) (.op 2 (.op 14 (.op 15 (.op 16 (.op 17 (.nil)))))))))) (.op 2 (.op 11 (.op 12 (.op 13 (.op 14 (.op 15 (.op 16 (.op 17 (.nil))))))))))))) (.op 2 (.op 8 (.op 9 (.op 10 (.op 11 (.op 12 (.op 13 (.op 14 (.op 15 (.op 16 (.op 17 (.nil)))))))))))))) (.op 2 (.op 6 (.op 8 (.op 9 (.op 10 (.op 11 (.op 12 (.op 13 (.op 14 (.op 15 (.op 16 (.op 17 (.nil))))))))))))))) (.op 2 (.op 4 (.op 6 (.op 8 (.op 9 (.op 10 (.op 11 (.op 12 (.op 13 (.op 14 (.op 15 (.op 16 (.op 17 (.nil)))))))))))))))) (.op 2 (.alt (.op 4 (.alt (.op 6 (.alt (.op 8 (.op 9 (.op 10 (.alt (.op 11 (.op 1 (.op 12 (.op 13 (.op 14 (.op 15 (.op 16 (.op 17 (.nil))))))))) (.op 1 (.op 11 (.op 12 (.op 13 (.op 14 (.op 15 (.op 16 (.op 17 (.nil))))))))))))) (.op 1 (.op 8 (.op 9 (.op 10 (.op 11 (.op 12 (.op 13 (.op 14 (.op 15 (.op 16 (.op 17 (.nil)))))))))))))) (.op 1 (.op 6 (.op 8 (.op 9 (.op 10 (.op 11 (.op 12 (.op 13 (.op 14 (.op 15 (.op 16 (.op 17 (.nil))))))))))))))) (.op 1 (.op 4 (.op 6 (.op 8 (.op 9 (.op 10 (.op 11 (.op 12 (.op 13 (.op 14 (.op 15 (.op 16 (.op 17 (.nil)))))))))))))))))))))) (by kernel_rfl) ?_;rw [<- hY1];refine⟨At0 (L+2),ld0 bY1,?_⟩;refine Gh ?_ (Gh ?_ ?_)
  ·refine cmo (fen 3 bY1) ?_;rintro e A ⟨rfl,hbA⟩;refine⟨hbA,?_⟩;have bA:=zst bY1 hbA;refine Gh ?_ (Gh ?_ ?_)
   ·refine cmo (fen 4 bA) ?_;rintro e B ⟨rfl,hbB⟩;refine⟨hbB,?_⟩;have bB:=zst bA hbB;refine Gh ?_ (Gh ?_ ?_)
    ·refine cmo (fen 5 bB) ?_;rintro e C ⟨rfl,hbC⟩;refine⟨hbC,?_⟩;have bC:=zst bB hbC;refine Gh ?_ (Gh ?_ ?_)
     ·refine s1 bC fun D hD=>?_;refine Gh ?_ ?_
      ·refine⟨At0 (L+2),ld1 D hD.2,?_⟩;refine Gh ?_ ?_
       ·refine s2 D hD fun F hF=>?_;refine⟨At0 (L+2),ld1 F hF.2,?_⟩;refine s3 F hF fun G hG=>?_;exact⟨(),(cvE rfl rfl),hG⟩
       ·refine⟨At0 (L+2),ld1 D hD.2,?_⟩;refine s2 D hD fun F hF=>?_;refine s3 F hF fun G hG=>?_;exact⟨(),(cvE rfl rfl),hG⟩
      ·refine⟨At0 (L+2),ld1 D hD.2,?_⟩;refine⟨At0 (L+2),ld1 D hD.2,?_⟩;refine s2 D hD fun F hF=>?_;refine s3 F hF fun G hG=>?_;exact⟨(),(cvE rfl rfl),hG⟩
     ·refine⟨At0 (L+2),ld0 bC,?_⟩;refine Gh ?_ ?_
      ·refine s1 bC fun D hD=>?_;refine Gh ?_ ?_
       ·refine s2 D hD fun F hF=>?_;refine⟨At0 (L+2),ld1 F hF.2,?_⟩;refine s3 F hF fun G hG=>?_;exact⟨(),(cvE rfl rfl),hG⟩
       ·refine⟨At0 (L+2),ld1 D hD.2,?_⟩;refine s2 D hD fun F hF=>?_;refine s3 F hF fun G hG=>?_;exact⟨(),(cvE rfl rfl),hG⟩
      ·refine⟨At0 (L+2),ld0 bC,?_⟩;refine s1 bC fun D hD=>?_;refine s2 D hD fun F hF=>?_;refine s3 F hF fun G hG=>?_;exact⟨(),(cvE rfl rfl),hG⟩
     ·refine⟨At0 (L+2),ld0 bC,?_⟩;refine Gh ?_ ?_
      ·refine s1 bC fun D hD=>?_;refine⟨At0 (L+2),ld1 D hD.2,?_⟩;refine s2 D hD fun F hF=>?_;refine s3 F hF fun G hG=>?_;exact⟨(),(cvE rfl rfl),hG⟩
      ·refine⟨At0 (L+2),ld0 bC,?_⟩;refine s1 bC fun D hD=>?_;refine s2 D hD fun F hF=>?_;refine s3 F hF fun G hG=>?_;exact⟨(),(cvE rfl rfl),hG⟩
    ·refine⟨At0 (L+2),ld0 bB,?_⟩;refine Gh ?_ ?_
     ·refine cmo (fen 5 bB) ?_;rintro e C ⟨rfl,hbC⟩;refine⟨hbC,?_⟩;have bC:=zst bB hbC;refine Gh ?_ ?_
      ·refine s1 bC fun D hD=>?_;refine Gh ?_ ?_
       ·refine s2 D hD fun F hF=>?_;refine⟨At0 (L+2),ld1 F hF.2,?_⟩;refine s3 F hF fun G hG=>?_;exact⟨(),(cvE rfl rfl),hG⟩
       ·refine⟨At0 (L+2),ld1 D hD.2,?_⟩;refine s2 D hD fun F hF=>?_;refine s3 F hF fun G hG=>?_;exact⟨(),(cvE rfl rfl),hG⟩
      ·refine⟨At0 (L+2),ld0 bC,?_⟩;refine s1 bC fun D hD=>?_;refine s2 D hD fun F hF=>?_;refine s3 F hF fun G hG=>?_;exact⟨(),(cvE rfl rfl),hG⟩
     ·refine⟨At0 (L+2),ld0 bB,?_⟩;refine cmo (fen 5 bB) ?_;rintro e C ⟨rfl,hbC⟩;refine⟨hbC,?_⟩;have bC:=zst bB hbC;refine s1 bC fun D hD=>?_;refine s2 D hD fun F hF=>?_;refine s3 F hF fun G hG=>?_;exact⟨(),(cvE rfl rfl),hG⟩
    ·refine⟨At0 (L+2),ld0 bB,?_⟩;refine Gh ?_ ?_
     ·refine cmo (fen 5 bB) ?_;rintro e C ⟨rfl,hbC⟩;refine⟨hbC,?_⟩;have bC:=zst bB hbC;refine Gh ?_ ?_
      ·refine s1 bC fun D hD=>?_;refine⟨At0 (L+2),ld1 D hD.2,?_⟩;refine s2 D hD fun F hF=>?_;refine s3 F hF fun G hG=>?_;exact⟨(),(cvE rfl rfl),hG⟩
      ·refine⟨At0 (L+2),ld0 bC,?_⟩;refine s1 bC fun D hD=>?_;refine s2 D hD fun F hF=>?_;refine s3 F hF fun G hG=>?_;exact⟨(),(cvE rfl rfl),hG⟩
     ·refine⟨At0 (L+2),ld0 bB,?_⟩;refine cmo (fen 5 bB) ?_;rintro e C ⟨rfl,hbC⟩;refine⟨hbC,?_⟩;have bC:=zst bB hbC;refine s1 bC fun D hD=>?_;refine s2 D hD fun F hF=>?_;refine s3 F hF fun G hG=>?_;exact⟨(),(cvE rfl rfl),hG⟩
   ·refine⟨At0 (L+2),ld0 bA,?_⟩;refine Gh ?_ ?_
    ·refine cmo (fen 4 bA) ?_;rintro e B ⟨rfl,hbB⟩;refine⟨hbB,?_⟩;have bB:=zst bA hbB;refine Gh ?_ ?_
     ·refine cmo (fen 5 bB) ?_;rintro e C ⟨rfl,hbC⟩;refine⟨hbC,?_⟩;have bC:=zst bB hbC;refine Gh ?_ ?_
      ·refine s1 bC fun D hD=>?_;refine Gh ?_ ?_
       ·refine s2 D hD fun F hF=>?_;refine⟨At0 (L+2),ld1 F hF.2,?_⟩;refine s3 F hF fun G hG=>?_;exact⟨(),(cvE rfl rfl),hG⟩
       ·refine⟨At0 (L+2),ld1 D hD.2,?_⟩;refine s2 D hD fun F hF=>?_;refine s3 F hF fun G hG=>?_;exact⟨(),(cvE rfl rfl),hG⟩
      ·refine⟨At0 (L+2),ld0 bC,?_⟩;refine s1 bC fun D hD=>?_;refine s2 D hD fun F hF=>?_;refine s3 F hF fun G hG=>?_;exact⟨(),(cvE rfl rfl),hG⟩
     ·refine⟨At0 (L+2),ld0 bB,?_⟩;refine cmo (fen 5 bB) ?_;rintro e C ⟨rfl,hbC⟩;refine⟨hbC,?_⟩;have bC:=zst bB hbC;refine s1 bC fun D hD=>?_;refine s2 D hD fun F hF=>?_;refine s3 F hF fun G hG=>?_;exact⟨(),(cvE rfl rfl),hG⟩
    ·refine⟨At0 (L+2),ld0 bA,?_⟩;refine cmo (fen 4 bA) ?_;rintro e B ⟨rfl,hbB⟩;refine⟨hbB,?_⟩;have bB:=zst bA hbB;refine cmo (fen 5 bB) ?_;rintro e C ⟨rfl,hbC⟩;refine⟨hbC,?_⟩;have bC:=zst bB hbC;refine s1 bC fun D hD=>?_;refine s2 D hD fun F hF=>?_;refine s3 F hF fun G hG=>?_;exact⟨(),(cvE rfl rfl),hG⟩
   ·refine⟨At0 (L+2),ld0 bA,?_⟩;refine Gh ?_ ?_
    ·refine cmo (fen 4 bA) ?_;rintro e B ⟨rfl,hbB⟩;refine⟨hbB,?_⟩;have bB:=zst bA hbB;refine Gh ?_ ?_
     ·refine cmo (fen 5 bB) ?_;rintro e C ⟨rfl,hbC⟩;refine⟨hbC,?_⟩;have bC:=zst bB hbC;refine Gh ?_ ?_
      ·refine s1 bC fun D hD=>?_;refine⟨At0 (L+2),ld1 D hD.2,?_⟩;refine s2 D hD fun F hF=>?_;refine s3 F hF fun G hG=>?_;exact⟨(),(cvE rfl rfl),hG⟩
      ·refine⟨At0 (L+2),ld0 bC,?_⟩;refine s1 bC fun D hD=>?_;refine s2 D hD fun F hF=>?_;refine s3 F hF fun G hG=>?_;exact⟨(),(cvE rfl rfl),hG⟩
     ·refine⟨At0 (L+2),ld0 bB,?_⟩;refine cmo (fen 5 bB) ?_;rintro e C ⟨rfl,hbC⟩;refine⟨hbC,?_⟩;have bC:=zst bB hbC;refine s1 bC fun D hD=>?_;refine s2 D hD fun F hF=>?_;refine s3 F hF fun G hG=>?_;exact⟨(),(cvE rfl rfl),hG⟩
    ·refine⟨At0 (L+2),ld0 bA,?_⟩;refine cmo (fen 4 bA) ?_;rintro e B ⟨rfl,hbB⟩;refine⟨hbB,?_⟩;have bB:=zst bA hbB;refine cmo (fen 5 bB) ?_;rintro e C ⟨rfl,hbC⟩;refine⟨hbC,?_⟩;have bC:=zst bB hbC;refine s1 bC fun D hD=>?_;refine s2 D hD fun F hF=>?_;refine s3 F hF fun G hG=>?_;exact⟨(),(cvE rfl rfl),hG⟩
  ·refine⟨At0 (L+2),ld0 bY1,?_⟩;refine Gh ?_ ?_
   ·refine cmo (fen 3 bY1) ?_;rintro e A ⟨rfl,hbA⟩;refine⟨hbA,?_⟩;have bA:=zst bY1 hbA;refine Gh ?_ ?_
    ·refine cmo (fen 4 bA) ?_;rintro e B ⟨rfl,hbB⟩;refine⟨hbB,?_⟩;have bB:=zst bA hbB;refine Gh ?_ ?_
     ·refine cmo (fen 5 bB) ?_;rintro e C ⟨rfl,hbC⟩;refine⟨hbC,?_⟩;have bC:=zst bB hbC;refine Gh ?_ ?_
      ·refine s1 bC fun D hD=>?_;refine Gh ?_ ?_
       ·refine s2 D hD fun F hF=>?_;refine⟨At0 (L+2),ld1 F hF.2,?_⟩;refine s3 F hF fun G hG=>?_;exact⟨(),(cvE rfl rfl),hG⟩
       ·refine⟨At0 (L+2),ld1 D hD.2,?_⟩;refine s2 D hD fun F hF=>?_;refine s3 F hF fun G hG=>?_;exact⟨(),(cvE rfl rfl),hG⟩
      ·refine⟨At0 (L+2),ld0 bC,?_⟩;refine s1 bC fun D hD=>?_;refine s2 D hD fun F hF=>?_;refine s3 F hF fun G hG=>?_;exact⟨(),(cvE rfl rfl),hG⟩
     ·refine⟨At0 (L+2),ld0 bB,?_⟩;refine cmo (fen 5 bB) ?_;rintro e C ⟨rfl,hbC⟩;refine⟨hbC,?_⟩;have bC:=zst bB hbC;refine s1 bC fun D hD=>?_;refine s2 D hD fun F hF=>?_;refine s3 F hF fun G hG=>?_;exact⟨(),(cvE rfl rfl),hG⟩
    ·refine⟨At0 (L+2),ld0 bA,?_⟩;refine cmo (fen 4 bA) ?_;rintro e B ⟨rfl,hbB⟩;refine⟨hbB,?_⟩;have bB:=zst bA hbB;refine cmo (fen 5 bB) ?_;rintro e C ⟨rfl,hbC⟩;refine⟨hbC,?_⟩;have bC:=zst bB hbC;refine s1 bC fun D hD=>?_;refine s2 D hD fun F hF=>?_;refine s3 F hF fun G hG=>?_;exact⟨(),(cvE rfl rfl),hG⟩
   ·refine⟨At0 (L+2),ld0 bY1,?_⟩;refine cmo (fen 3 bY1) ?_;rintro e A ⟨rfl,hbA⟩;refine⟨hbA,?_⟩;have bA:=zst bY1 hbA;refine cmo (fen 4 bA) ?_;rintro e B ⟨rfl,hbB⟩;refine⟨hbB,?_⟩;have bB:=zst bA hbB;refine cmo (fen 5 bB) ?_;rintro e C ⟨rfl,hbC⟩;refine⟨hbC,?_⟩;have bC:=zst bB hbC;refine s1 bC fun D hD=>?_;refine s2 D hD fun F hF=>?_;refine s3 F hF fun G hG=>?_;exact⟨(),(cvE rfl rfl),hG⟩
  ·refine⟨At0 (L+2),ld0 bY1,?_⟩;refine Gh ?_ ?_
   ·refine cmo (fen 3 bY1) ?_;rintro e A ⟨rfl,hbA⟩;refine⟨hbA,?_⟩;have bA:=zst bY1 hbA;refine Gh ?_ ?_
    ·refine cmo (fen 4 bA) ?_;rintro e B ⟨rfl,hbB⟩;refine⟨hbB,?_⟩;have bB:=zst bA hbB;refine Gh ?_ ?_
     ·refine cmo (fen 5 bB) ?_;rintro e C ⟨rfl,hbC⟩;refine⟨hbC,?_⟩;have bC:=zst bB hbC;refine Gh ?_ ?_
      ·refine s1 bC fun D hD=>?_;refine⟨At0 (L+2),ld1 D hD.2,?_⟩;refine s2 D hD fun F hF=>?_;refine s3 F hF fun G hG=>?_;exact⟨(),(cvE rfl rfl),hG⟩
      ·refine⟨At0 (L+2),ld0 bC,?_⟩;refine s1 bC fun D hD=>?_;refine s2 D hD fun F hF=>?_;refine s3 F hF fun G hG=>?_;exact⟨(),(cvE rfl rfl),hG⟩
     ·refine⟨At0 (L+2),ld0 bB,?_⟩;refine cmo (fen 5 bB) ?_;rintro e C ⟨rfl,hbC⟩;refine⟨hbC,?_⟩;have bC:=zst bB hbC;refine s1 bC fun D hD=>?_;refine s2 D hD fun F hF=>?_;refine s3 F hF fun G hG=>?_;exact⟨(),(cvE rfl rfl),hG⟩
    ·refine⟨At0 (L+2),ld0 bA,?_⟩;refine cmo (fen 4 bA) ?_;rintro e B ⟨rfl,hbB⟩;refine⟨hbB,?_⟩;have bB:=zst bA hbB;refine cmo (fen 5 bB) ?_;rintro e C ⟨rfl,hbC⟩;refine⟨hbC,?_⟩;have bC:=zst bB hbC;refine s1 bC fun D hD=>?_;refine s2 D hD fun F hF=>?_;refine s3 F hF fun G hG=>?_;exact⟨(),(cvE rfl rfl),hG⟩
   ·refine⟨At0 (L+2),ld0 bY1,?_⟩;refine cmo (fen 3 bY1) ?_;rintro e A ⟨rfl,hbA⟩;refine⟨hbA,?_⟩;have bA:=zst bY1 hbA;refine cmo (fen 4 bA) ?_;rintro e B ⟨rfl,hbB⟩;refine⟨hbB,?_⟩;have bB:=zst bA hbB;refine cmo (fen 5 bB) ?_;rintro e C ⟨rfl,hbC⟩;refine⟨hbC,?_⟩;have bC:=zst bB hbC;refine s1 bC fun D hD=>?_;refine s2 D hD fun F hF=>?_;refine s3 F hF fun G hG=>?_;exact⟨(),(cvE rfl rfl),hG⟩
 clear fS fP sY hbwY fY fM f0 hwX fX sX hbX hbY;clear X Y;rintro _ Z ⟨hS,fP,fM,f0,fZ,sZ,hbZ⟩;refine⟨Nat,fun R=>⟨[(1,At0 b),(2,At0 L),(4,At0 (L+1)),(5,At0 (L+3)),(6,At0 R)],[]⟩,fun R Y=>Y.heap[R]?=some (.cells zc8.toArray 162 (0,0))/\Bw Z Y,?_,?_⟩
 ·refine cmo zsa ?_;rintro e Y ⟨rfl,hbY⟩;refine zo (X:=Y) (v := .agg zc8.toArray) zvt rfl rfl rfl fun V hbV fV sV=>?_;exact⟨Y.heap.size,(cvE rfl rfl),fV,(zst hbY hbV)⟩
 rintro R Y ⟨fR,hbY⟩;have hbwY:=zst hbZ hbY;replace hS:=hS.below hbY;replace fP:=zb hbY fP;replace fM:=zb hbY fM;replace f0:=zb hbY f0;replace fZ:=zb hbY fZ;refine⟨Unit,fun _=>⟨[(4,At0 (L+1))],[]⟩,fun _ V=>z9 V (L+1) (za4 m.toNat x)/\Bw w V,?_,?_⟩
 ·refine⟨_,zc (za fZ) (i:=0) rfl,?_⟩;refine cmo (zmP (n:=x.ev.length) (caps := #[At0 (L+3),At0 R,At0 L]) (g:=95) (p:=fun a d=>zg x.po a d&&(zbN x a&&(zbN x d&&zfq m.toNat x (zX x 3) (zX x 4) (zX x 5) a d))) (by omega) (by kernel_rfl) fun a d U ha hd hb=>zsB hk (hS.below hb) (zb hb fP) (zb hb fR) (zb hb fM) ha hd) ?_;rintro e V ⟨rfl,hbV⟩;replace f0:=zb hbV f0;refine zt (v := .agg (zf (za4 m.toNat x)).toArray) k39 f0 (zh _) (zh _) (zF _) ?_;exact⟨(),(cvE rfl rfl),zn f0,zl ((zst hbwY hbV)) (by omega) _⟩
 rintro _ V ⟨f0,hbV⟩;exact⟨zf (za4 m.toNat x),zh _,za f0,rfl,hbV⟩
end
section
variable {b c:Nat} {x:ExD} {q:OA} {w:Wd}
theorem zn5 {m:UInt8}:Calls PG 24 #[u8 m] w fun e w'=>e = .returned (.bool (zal m.toNat))/\w=w':=by
 refine zJ 9 [u8 m] Tryz.func24 ?_;refine biE (fun h=>?_) fun h=>?_
 ·have h:(1:Int)<=(m.toNat:Int):=dT h;refine⟨rb ?_,rfl⟩;unfold zal;rw [Ut (by omega:1<=m.toNat),Uz];exact QH.2 (by show (m.toNat:Int)<=6↔_;omega)
 ·have h:¬ (1:Int)<=(m.toNat:Int):=dF h;refine⟨rb ?_,rfl⟩;unfold zal;rw [Ui (by omega:¬ 1<=m.toNat)];rfl
theorem zsS {r:RelD} (hn:r.n=x.ev.length) (h48:x.ev.length<=48):zI (zdi x r).to:=by
 unfold zdi;exact zff (by omega)
theorem zjS {X:Wd} {g:Nat} {a b c:RelD} (h:X.heap[g]?=some (.cells (zf a++(zf b++zf c)).toArray 39 (0,0))):SlR zua X (some ⟨g,0,none⟩) [a,b,c] :=
 SlR.of_cells (hlt h) (by
  have:[a,b,c].flatMap zua.enc=zf a++(zf b++zf c):=by
   rw [KT,KT,KT,Qr,QL];rfl
  rw [this];exact za h)
theorem zmf {m:UInt8} (hk:zal m.toNat=true) (fx:ExH w b x q c) (hv:ExW w x q) (hrf:x.rf.n=x.ev.length) (hT:Tz64M w):CB 26 #[u8 m,At0 b] w (u8 (UInt8.ofNat (qG m.toNat x))):=by
 refine qz 80 [u8 m,At0 b] (.c .p (.c .p (.c .p (.c .p (.c .p (.c .p (.c .p (.c .p (.c .p (.c .p .p)))))))))) Tryz.func26 ?_;obtain⟨L,hL⟩:=nm (w.heap.size);have hn:=hv.n;obtain⟨fw,frw⟩:=zq1 hv hT;have hba:∀ (A:Wd) (o:Obj),Bw A (A.alloc o):=fun A o=>(zba _ _);refine⟨Unit,fun _=>⟨[(0,u8 m),(3,At0 L)],[]⟩,fun _ X=>X.heap[L]?=some (.cells #[At0 b] 81 (0,0))/\Bw w X,⟨(),⟨.cons rfl (.cons (by rw [hL];rfl) .nil),rfl⟩,by rw [hL];exact zw w _,hba w _⟩,?_⟩;rintro _ X ⟨fB,hbX⟩;refine⟨Nat,fun F=>⟨[(0,u8 m),(3,At0 L),(5,At0 F)],[]⟩,fun F Y=>z9 Y F (frM x)/\Y.heap[L]?=some (.cells #[At0 b] 81 (0,0))/\Bw w Y,?_,?_⟩
 ·refine⟨_,zc (za fB) (i:=0) rfl,cmo (zv0 (zb hbX fx) (hv.below hbX) (hT.below hbX)) ?_⟩;rintro e Y ⟨rfl,hbY⟩;refine zo (X:=Y) (v := .agg (zf (frM x)).toArray) k39 (zh _) (by kernel_rfl) (zF _) fun V hbV fV sV=>?_;have b1:=zst hbY hbV;exact⟨Y.heap.size,(cvE rfl rfl),fV,zb b1 fB,(zst hbX b1)⟩
 clear fB hbX;clear X;rintro F X ⟨fF,fB,hbX⟩;refine⟨Nat,fun G=>⟨[(0,u8 m),(3,At0 L),(5,At0 F),(6,At0 G)],[]⟩,fun G Y=>z9 Y G (zaa x)/\z9 Y F (frM x)/\Y.heap[L]?=some (.cells #[At0 b] 81 (0,0))/\Bw w Y,?_,?_⟩
 ·refine⟨_,zc (za fB) (i:=0) rfl,?_⟩;have fX:=zb hbX fx;have hvX:=hv.below hbX;refine⟨_,zc (za fX) (i:=0) rfl,cmo (zmP (n:=x.ev.length) (caps := #[At0 L]) (g:=48) (p:=fun a d=>zg x.po a d&&zbn x a d) (by omega) (by kernel_rfl) fun a d Z ha hd hb=>zpE (zb hb fB) (zb hb fX) (hvX.below hb) ha hd) ?_⟩;rintro e Y ⟨rfl,hbY⟩;refine zo (X:=Y) (v := .agg (zf (zaa x)).toArray) k39 (zh _) (by kernel_rfl) (zF _) fun V hbV fV sV=>?_;have b1:=zst hbY hbV;exact⟨Y.heap.size,(cvE rfl rfl),fV,zb b1 fF,zb b1 fB,(zst hbX b1)⟩
 clear fF fB hbX;clear X;rintro G X ⟨fG,fF,fB,hbX⟩;have lw:zI (zaa x).to:=zff (by omega);have hbr:qG m.toNat x=if zaZ (qr (zaa x) [x.rf,x.co,frM x])=true then (if zbt (zaP x.rm (jj (frM x) x.co).1).1=true then (if m.toNat=1 then 0 else if zaZ (qr (za4 m.toNat x) [if m.toNat=2 then x.rf else zdi x x.rf,x.co,frM x])=true then 0 else 3) else 2) else 1:=rfl
 refine⟨Unit,fun _=>⟨[(0,u8 m),(3,At0 L),(5,At0 F)],[]⟩,fun _ Y=>zaZ (qr (zaa x) [x.rf,x.co,frM x])=true/\z9 Y F (frM x)/\Y.heap[L]?=some (.cells #[At0 b] 81 (0,0))/\Bw w Y,?_,?_⟩
 ·have dX:Bw X X.drew:=(Gc _ _).drew;have fX:=hdr (zb hbX fx);refine DrawE.ord [] [0,1,2,3,4,5,6,7,8,9,10,11,12,13] (by kernel_rfl) ⟨zf (zaa x),zh _,za (hdr fG),hlt (hdr fG),_,zc (za (hdr fB)) (i:=0) rfl,zf x.rf,zh _,jK fX (i:=1) (by decide) rfl,hlt fX,_,zc (za (hdr fB)) (i:=0) rfl,zf x.co,zh _,jK fX (i:=2) (by decide) rfl,hlt fX,zf (frM x),zh _,za (hdr fF),hlt (hdr fF),⟨by decide,by decide,rfl⟩,zf x.rf++(zf x.co++zf (frM x)),by kernel_rfl,?_⟩;refine⟨hba _ _,?_⟩;have b1:=dX.alloc (UX _) (.cells (zf x.rf++(zf x.co++zf (frM x))).toArray 39);have hl:=zjS (zw X.drew (.cells (zf x.rf++(zf x.co++zf (frM x))).toArray 39));have hw3:∀ o∈[x.rf,x.co,frM x],zI o.to:=by
   simp only [UE,Qx,Gm,forall_eq_or_imp,forall_eq];exact⟨hv.rf,hv.co,frw⟩
  refine cmo (zjL (l:=[x.rf,x.co,frM x]) lw hl hw3 (JS rfl)) ?_;rintro e Y ⟨rfl,hbY⟩;refine⟨hbY,?_⟩;have b2:=zst b1 hbY;refine cmo (zep (zc4 lw hw3) (hT.below ((zst hbX b2)))) ?_;rintro e Z ⟨rfl,hbZ⟩;refine⟨hbZ,?_⟩;have b3:=zst b2 hbZ;have b4:=zst hbX b3;refine biE (fun h=>?_) fun h=>?_
  ·have h:zaZ (qr (zaa x) [x.rf,x.co,frM x])=false:=by
    have h:(!zaZ (qr (zaa x) [x.rf,x.co,frM x]))=true:=h;simpa using h
   rw [h,Gp (by decide)] at hbr;rw [hbr];exact⟨rfl,b4⟩
  ·have h:zaZ (qr (zaa x) [x.rf,x.co,frM x])=true:=by
    have h:(!zaZ (qr (zaa x) [x.rf,x.co,frM x]))=false:=h;simpa using h
   exact⟨(),(cvE rfl rfl),h,zb b3 fF,zb b3 fB,b4⟩
 clear fG fF fB hbX;clear X;rintro _ X ⟨h1,fF,fB,hbX⟩;rw [Gq h1] at hbr;clear h1 lw G;refine⟨Nat,fun G=>⟨[(0,u8 m),(3,At0 L),(5,At0 F),(7,At0 G)],[]⟩,fun G Y=>z9 Y G (jj (frM x) x.co).1/\z9 Y F (frM x)/\Y.heap[L]?=some (.cells #[At0 b] 81 (0,0))/\Bw w Y,?_,?_⟩
 ·have dX:Bw X X.drew:=(Gc _ _).drew;have fX:=hdr (zb hbX fx);have put:∀ (W:Wd) (b3:Nat),Bw X W->z9 W b3 zz->X.heap.size<=b3->∀ {K:Wd->Prop},(∀ Y,(z9 Y b3 (jj (frM x) x.co).1/\z9 Y F (frM x)/\Y.heap[L]?=some (.cells #[At0 b] 81 (0,0))/\Bw w Y)->K Y) ->
    SatR ((storeVar 39 ⟨b3,0,none⟩ (.agg (zf (jj (frM x) x.co).1).toArray)).run PG W) fun _ w'=>K w':=by
   intro W b3 hW f3 g3 K k;refine zt (v := .agg (zf (jj (frM x) x.co).1).toArray) k39 f3 (zh _) (zh _) (zF _) ?_;have hF2:=hlt fF;have hL2:=hlt fB;exact k _ ⟨zn f3,(zq (by omega)).trans (zb hW fF),(zq (by omega)).trans (zb hW fB),zl ((zst hbX hW)) (by have:=hbX.size;omega) _⟩
  refine DrawE.treeQ [10] (.op 0 (.op 1 (.op 2 (.op 3 (.op 4 (.alt (.op 9 (.op 5 (.op 6 (.op 7 (.op 8 (.op 10 (.op 11 .nil))))))) (.op 5 (.op 6 (.op 7 (.op 8 (.op 9 (.op 10 (.op 11 .nil))))))))))))) (by kernel_rfl) ⟨zf (frM x),zh _,za (hdr fF),hlt (hdr fF),_,zc (za (hdr fB)) (i:=0) rfl,zf x.co,zh _,jK fX (i:=2) (by decide) rfl,hlt fX,Gh ?_ ?_⟩
  ·refine⟨hba _ _,?_⟩;have b1:=dX.alloc (UX _) (.cells (zf zz).toArray 39);refine cmo (zcB frw hv.co (hT.below ((zst hbX b1)))) ?_;rintro e Y ⟨rfl,hbY⟩;exact⟨hbY,put Y X.heap.size ((zst b1 hbY)) (zb hbY (zw X.drew _)) (UX _) (fun Y hY=>⟨X.heap.size,(cvE rfl rfl),hY⟩)⟩
  ·refine cmo (zcB frw hv.co (hT.below ((zst hbX dX)))) ?_;rintro e Y ⟨rfl,hbY⟩;refine⟨hbY,?_⟩;have b1:=zst dX hbY;exact⟨hba _ _,put _ Y.heap.size (b1.alloc b1.size _) (zw Y _) b1.size (fun V hV=>⟨Y.heap.size,(cvE rfl rfl),hV⟩)⟩
 clear fF fB hbX;clear X;rintro G X ⟨fG,fF,fB,hbX⟩;have tw:=zdx (a:=frM x) (b:=x.co) frw hv.co;refine⟨Nat,fun H=>⟨[(0,u8 m),(3,At0 L),(5,At0 F),(9,At0 H)],[]⟩,fun H Y=>z9 Y H (zaP x.rm (jj (frM x) x.co).1).1/\z9 Y F (frM x)/\Y.heap[L]?=some (.cells #[At0 b] 81 (0,0))/\Bw w Y,?_,?_⟩
 ·have dX:Bw X X.drew:=(Gc _ _).drew;have fX:=hdr (zb hbX fx);obtain⟨tb,htb⟩:=nm ((jj (frM x) x.co).1);rw [<- htb] at fG tw ⊢;have put:∀ (W:Wd) (b3:Nat),Bw X W->z9 W b3 zz->X.heap.size<=b3->∀ {K:Wd->Prop},(∀ Y,(z9 Y b3 (zaP x.rm tb).1/\z9 Y F (frM x)/\Y.heap[L]?=some (.cells #[At0 b] 81 (0,0))/\Bw w Y)->K Y) ->
    SatR ((storeVar 39 ⟨b3,0,none⟩ (.agg (zf (zaP x.rm tb).1).toArray)).run PG W) fun _ w'=>K w':=by
   intro W b3 hW f3 g3 K k;refine zt (v := .agg (zf (zaP x.rm tb).1).toArray) k39 f3 (zh _) (zh _) (zF _) ?_;have hF2:=hlt fF;have hL2:=hlt fB;exact k _ ⟨zn f3,(zq (by omega)).trans (zb hW fF),(zq (by omega)).trans (zb hW fB),zl ((zst hbX hW)) (by have:=hbX.size;omega) _⟩
  refine DrawE.treeQ [10] (.op 0 (.op 1 (.op 2 (.op 3 (.op 4 (.alt (.op 9 (.op 5 (.op 6 (.op 7 (.op 8 (.op 10 (.op 11 .nil))))))) (.op 5 (.op 6 (.op 7 (.op 8 (.op 9 (.op 10 (.op 11 .nil))))))))))))) (by kernel_rfl) ⟨_,zc (za (hdr fB)) (i:=0) rfl,zf x.rm,zh _,jK fX (i:=5) (by decide) rfl,hlt fX,zf tb,zh _,za (hdr fG),hlt (hdr fG),Gh ?_ ?_⟩
  ·refine⟨hba _ _,?_⟩;have b1:=dX.alloc (UX _) (.cells (zf zz).toArray 39);refine cmo (zrX hv.rm tw) ?_;rintro e Y ⟨rfl,hbY⟩;exact⟨hbY,put Y X.heap.size ((zst b1 hbY)) (zb hbY (zw X.drew _)) (UX _) (fun Y hY=>⟨X.heap.size,(cvE rfl rfl),hY⟩)⟩
  ·refine cmo (zrX hv.rm tw) ?_;rintro e Y ⟨rfl,hbY⟩;refine⟨hbY,?_⟩;have b1:=zst dX hbY;exact⟨hba _ _,put _ Y.heap.size (b1.alloc b1.size _) (zw Y _) b1.size (fun V hV=>⟨Y.heap.size,(cvE rfl rfl),hV⟩)⟩
 clear fG fF fB hbX;clear X G;rintro H X ⟨fH,fF,fB,hbX⟩;refine⟨Unit,fun _=>⟨[(0,u8 m),(3,At0 L),(5,At0 F)],[]⟩,fun _ Y=>zbt (zaP x.rm (jj (frM x) x.co).1).1=true/\z9 Y F (frM x)/\Y.heap[L]?=some (.cells #[At0 b] 81 (0,0))/\Bw w Y,?_,?_⟩
 ·refine⟨zf (zaP x.rm (jj (frM x) x.co).1).1,zh _,za fH,hlt fH,cmo (ztE (zry hv.rm)) ?_⟩;rintro e Y ⟨rfl,hbY⟩;have b4:=zst hbX hbY;refine biE (fun h=>?_) fun h=>?_
  ·have h:zbt (zaP x.rm (jj (frM x) x.co).1).1=false:=by
    have h:(!zbt (zaP x.rm (jj (frM x) x.co).1).1)=true:=h;simpa using h
   rw [h,Gp (by decide)] at hbr;rw [hbr];exact⟨rfl,b4⟩
  ·have h:zbt (zaP x.rm (jj (frM x) x.co).1).1=true:=by
    have h:(!zbt (zaP x.rm (jj (frM x) x.co).1).1)=false:=h;simpa using h
   exact⟨(),(cvE rfl rfl),h,zb hbY fF,zb hbY fB,b4⟩
 clear fH fF fB hbX tw;clear X H;rintro _ X ⟨h1,fF,fB,hbX⟩;rw [Gq h1] at hbr;clear h1;refine⟨Unit,fun _=>⟨[(0,u8 m),(3,At0 L),(5,At0 F)],[]⟩,fun _ Y=>m.toNat≠1/\X=Y,?_,?_⟩
 ·refine biE (fun h=>?_) fun h=>?_
  ·have h:(m.toNat:Int)=1:=dT h;rw [Gq (by omega)] at hbr;rw [hbr];exact⟨rfl,hbX⟩
  ·have h:¬ (m.toNat:Int)=1:=dF h;exact⟨(),(cvE rfl rfl),by omega,rfl⟩
 rintro _ _ ⟨h1,rfl⟩;rw [Gp h1] at hbr;clear h1;refine⟨Nat,fun G=>⟨[(0,u8 m),(3,At0 L),(5,At0 F),(11,At0 G)],[]⟩,fun G Y=>G≠F/\G≠L/\w.heap.size<=G/\z9 Y G x.rf/\z9 Y F (frM x)/\Y.heap[L]?=some (.cells #[At0 b] 81 (0,0))/\Bw w Y,?_,?_⟩
 ·have fX:=zb hbX fx;refine⟨_,zc (za fB) (i:=0) rfl,zf x.rf,zh _,jK fX (i:=1) (by decide) rfl,hlt fX,zo (X:=X) (v := .agg (zf x.rf).toArray) k39 (zh _) (by kernel_rfl) (zF _) fun V hbV fV sV=>?_⟩;have hF2:=hlt fF;have hL2:=hlt fB;exact⟨X.heap.size,(cvE rfl rfl),by omega,by omega,hbX.size,fV,zb hbV fF,zb hbV fB,(zst hbX hbV)⟩
 clear fF fB hbX;clear X;rintro G X ⟨hGF,hGL,hGw,fG,fF,fB,hbX⟩;obtain⟨rfx,hrfx⟩:=nm (if m.toNat=2 then x.rf else zdi x x.rf);have rfw:zI rfx.to:=by
  rw [hrfx]
  split
  ·exact hv.rf
  ·exact zsS hrf (by omega)
 rw [<- hrfx] at hbr;refine⟨Unit,fun _=>⟨[(0,u8 m),(3,At0 L),(5,At0 F),(11,At0 G)],[]⟩,fun _ Y=>z9 Y G rfx/\z9 Y F (frM x)/\Y.heap[L]?=some (.cells #[At0 b] 81 (0,0))/\Bw w Y,?_,?_⟩
 ·have fX:=zb hbX fx;have hvX:=hv.below hbX;refine biE (fun h=>?_) fun h=>?_
  ·have h:¬ m.toNat=2:=by
    have h:(!decide ((m.toNat:Int)=2))=true:=h;have h:¬ (m.toNat:Int)=2:=(by simpa using h);omega
   rw [Gp h] at hrfx;refine⟨_,zc (za fB) (i:=0) rfl,zf x.rf,zh _,za fG,hlt fG,cmo (zvu fX hvX hv.rf hrf) ?_⟩;rintro e Y ⟨rfl,hbY⟩;rw [<- hrfx];exact zt (v := .agg (zf rfx).toArray) k39 (zb hbY fG) (zh _) (zh _) (zF _) ⟨(),(cvE rfl rfl),zn (zb hbY fG),(zq (by omega)).trans (zb hbY fF),(zq (by omega)).trans (zb hbY fB),zl ((zst hbX hbY)) hGw _⟩
  ·have h:m.toNat=2:=by
    have h:(!decide ((m.toNat:Int)=2))=false:=h;have h:(m.toNat:Int)=2:=(by simpa using h);omega
   rw [Gq h] at hrfx;rw [hrfx];exact⟨(),(cvE rfl rfl),fG,fF,fB,hbX⟩
 clear fG fF fB hbX hrfx;clear X;rintro _ X ⟨fG,fF,fB,hbX⟩;have kw:zI (za4 m.toNat x).to:=zff (by omega);have dX:Bw X X.drew:=(Gc _ _).drew;have hbD:=zst hbX dX;have hw3:∀ o∈[rfx,x.co,frM x],zI o.to:=by
  simp only [UE,Qx,Gm,forall_eq_or_imp,forall_eq];exact⟨rfw,hv.co,frw⟩
 have fD:=hdr (zb hbX fx);have hk0:∀ {Y:Wd},Bw X Y->CB 57 #[u8 m,At0 b] Y (.agg (zf (za4 m.toNat x)).toArray):=fun {Y} hY =>
  have h2:=zst hbX hY
  zuy hk (zb h2 fx) (hv.below h2) (hT.below h2)
 refine DrawE.treeQ [] (.op 0 (.op 1 (.op 3 (.op 4 (.op 5 (.op 6 (.op 7 (.op 8 (.alt (.op 9 (.op 2 (.op 10 (.op 11 (.op 12 .nil))))) (.op 2 (.op 9 (.op 10 (.op 11 (.op 12 .nil)))))))))))))) (by kernel_rfl) ⟨_,zc (za (hdr fB)) (i:=0) rfl,zf rfx,zh _,za (hdr fG),hlt (hdr fG),_,zc (za (hdr fB)) (i:=0) rfl,zf x.co,zh _,jK fD (i:=2) (by decide) rfl,hlt fD,zf (frM x),zh _,za (hdr fF),hlt (hdr fF),Gh ?_ ?_⟩
 ·refine⟨⟨by decide,by decide,rfl⟩,zf rfx++(zf x.co++zf (frM x)),by kernel_rfl,?_⟩;refine⟨hba _ _,?_⟩;have b1:=dX.alloc (UX _) (.cells (zf rfx++(zf x.co++zf (frM x))).toArray 39);have hl:=zjS (zw X.drew (.cells (zf rfx++(zf x.co++zf (frM x))).toArray 39));refine cmo (hk0 b1) ?_;rintro e Y ⟨rfl,hbY⟩;refine⟨hbY,?_⟩;have b2:=zst b1 hbY;refine cmo (zjL (l:=[rfx,x.co,frM x]) kw (hl.below hbY) hw3 (JS rfl)) ?_;rintro e V ⟨rfl,hbV⟩;refine⟨hbV,?_⟩;have b3:=zst b2 hbV;refine cmo (zep (zc4 kw hw3) (hT.below ((zst hbX b3)))) ?_;rintro e Z ⟨rfl,hbZ⟩;refine⟨hbZ,?_⟩;have b5:=hbX.trans (((zst b3 hbZ)).mono hbX.size);refine biE (fun h=>?_) fun h=>?_
  ·have h:zaZ (qr (za4 m.toNat x) [rfx,x.co,frM x])=false:=by
    have h:(!zaZ (qr (za4 m.toNat x) [rfx,x.co,frM x]))=true:=h;simpa using h
   rw [h,Gp (by decide)] at hbr;rw [hbr];exact⟨rfl,b5⟩
  ·have h:zaZ (qr (za4 m.toNat x) [rfx,x.co,frM x])=true:=by
    have h:(!zaZ (qr (za4 m.toNat x) [rfx,x.co,frM x]))=false:=h;simpa using h
   rw [h,Gq rfl] at hbr;rw [hbr];exact⟨rfl,b5⟩
 ·refine cmo (hk0 dX) ?_;rintro e Y ⟨rfl,hbY⟩;refine⟨hbY,?_⟩;have b1:=zst dX hbY;refine⟨⟨by decide,by decide,rfl⟩,zf rfx++(zf x.co++zf (frM x)),by kernel_rfl,?_⟩;refine⟨hba _ _,?_⟩;have b2:=b1.alloc b1.size (.cells (zf rfx++(zf x.co++zf (frM x))).toArray 39);have hl:=zjS (zw Y (.cells (zf rfx++(zf x.co++zf (frM x))).toArray 39));refine cmo (zjL (l:=[rfx,x.co,frM x]) kw hl hw3 (JS rfl)) ?_;rintro e V ⟨rfl,hbV⟩;refine⟨hbV,?_⟩;have b3:=zst b2 hbV;refine cmo (zep (zc4 kw hw3) (hT.below ((zst hbX b3)))) ?_;rintro e Z ⟨rfl,hbZ⟩;refine⟨hbZ,?_⟩;have b5:=hbX.trans (((zst b3 hbZ)).mono hbX.size);refine biE (fun h=>?_) fun h=>?_
  ·have h:zaZ (qr (za4 m.toNat x) [rfx,x.co,frM x])=false:=by
    have h:(!zaZ (qr (za4 m.toNat x) [rfx,x.co,frM x]))=true:=h;simpa using h
   rw [h,Gp (by decide)] at hbr;rw [hbr];exact⟨rfl,b5⟩
  ·have h:zaZ (qr (za4 m.toNat x) [rfx,x.co,frM x])=true:=by
    have h:(!zaZ (qr (za4 m.toNat x) [rfx,x.co,frM x]))=false:=h;simpa using h
   rw [h,Gq rfl] at hbr;rw [hbr];exact⟨rfl,b5⟩
theorem zk6 (h:jh x=true):x.rf.n=x.ev.length:=by
 unfold jh za1 at h;simp only [UB,List.all_nil,Bool.and_true,bAT,dE] at h;obtain⟨_,_,_,_,⟨_,h6,_⟩,_⟩:=h;exact h6.1
theorem zsu {A B C:Bool} {m:Nat}:(if A=true then (if B=true then (if m=1 then 0 else if C=true then 0 else 3) else 2) else 1)<=3:=by
 by_cases h:m=1 <;> cases A <;> cases B <;> cases C <;> simp [h]
theorem zpF {m:Nat} {x:ExD}:decide ((((UInt8.ofNat (qG m x)).toNat:Nat):Int)=0)=decide (qG m x=0):=by
 have h:qG m x<=3:=by
  unfold qG;exact zsu
 refine QH.2 ?_;rw [KI];omega
theorem zkC {m:UInt8} (hv:ExW w x q) (hT:Tz64M w):CB 9 #[u8 m,.agg (exC x q c).toArray] w (.bool (zdh m.toNat x)):=by
 refine qz 16 [u8 m,.agg (exC x q c).toArray] (.c .p .p) Tryz.func9 ?_;obtain⟨L,hL⟩:=nm (w.heap.size);refine⟨Unit,fun _=>⟨[(0,u8 m),(3,At0 L)],[]⟩,fun _ X=>ExH X L x q c/\Bw w X,⟨(),⟨.cons rfl (.cons (by rw [hL];rfl) .nil),rfl⟩,by rw [hL];exact zw w _,(zba w _)⟩,?_⟩;rintro _ X ⟨fX,hbX⟩;refine cmo zn5 ?_;rintro e _ ⟨rfl,rfl⟩;refine biE (fun h1=>?_) fun h1=>?_
 ·have h1:zal m.toNat=true:=h1;refine⟨exC x q c,zC _ _ _,za fX,hlt fX,cmo (zml (hv.below hbX) (hT.below hbX)) ?_⟩;rintro e Y ⟨rfl,hbY⟩;have bY:=zst hbX hbY;refine biE (fun h2=>?_) fun h2=>?_
  ·have h2:jh x=true:=h2;refine cmo (zmf h1 (zb hbY fX) (hv.below bY) (zk6 h2) (hT.below bY)) ?_;rintro e Z ⟨rfl,hbZ⟩;refine⟨rb ?_,(zst bY hbZ)⟩;unfold zdh;rw [h1,h2];exact zpF
  ·have h2:jh x=false:=h2;exact⟨rb (by unfold zdh;rw [h2];cases zal m.toNat <;> rfl),bY⟩
 ·have h1:zal m.toNat=false:=h1;exact brF ⟨rb (by unfold zdh;rw [h1];rfl),hbX⟩
end
section
variable {b c:Nat} {x:ExD} {q:OA} {w:Wd}
theorem zrW {m:UInt8} (hv:ExW w x q) (hT:Tz64M w):CB 19 #[u8 m,.agg (exC x q c).toArray] w (u8 (UInt8.ofNat (zgI m.toNat x))):=by
 refine qz 15 [u8 m,.agg (exC x q c).toArray] (.c .p .p) Tryz.func19 ?_;obtain⟨L,hL⟩:=nm (w.heap.size);refine⟨Unit,fun _=>⟨[(0,u8 m),(3,At0 L)],[]⟩,fun _ X=>ExH X L x q c/\Bw w X,⟨(),⟨.cons rfl (.cons (by rw [hL];rfl) .nil),rfl⟩,by rw [hL];exact zw w _,(zba w _)⟩,?_⟩;rintro _ X ⟨fX,hbX⟩;refine cmo zn5 ?_;rintro e _ ⟨rfl,rfl⟩;refine biE (fun h1=>?_) fun h1=>?_
 ·have h1:zal m.toNat=false:=by
   have h1:(!zal m.toNat)=true:=h1;simpa using h1
  refine brT ?_;have e0:zgI m.toNat x=0:=by unfold zgI;rw [Gp fun h=>by rw [h1] at h;cases h.1]
  rw [e0];exact⟨rfl,hbX⟩
 ·have h1:zal m.toNat=true:=by
   have h1:(!zal m.toNat)=false:=h1;simpa using h1
  refine⟨exC x q c,zC _ _ _,za fX,hlt fX,cmo (zml (hv.below hbX) (hT.below hbX)) ?_⟩;rintro e Y ⟨rfl,hbY⟩;have bY:=zst hbX hbY;refine biE (fun h2=>?_) fun h2=>?_
  ·have h2:jh x=false:=by
    have h2:(!jh x)=true:=h2;simpa using h2
   have e0:zgI m.toNat x=0:=by unfold zgI;rw [Gp fun h=>by rw [h2] at h;cases h.2]
   rw [e0];exact⟨rfl,bY⟩
  ·have h2:jh x=true:=by
    have h2:(!jh x)=false:=h2;simpa using h2
   have e0:zgI m.toNat x=qG m.toNat x:=Gq ⟨h1,h2⟩;rw [e0];refine cmo (zmf h1 (zb hbY fX) (hv.below bY) (zk6 h2) (hT.below bY)) ?_;rintro e Z ⟨rfl,hbZ⟩;exact⟨rfl,(zst bY hbZ)⟩
end
def zhk (a b:List InsD):Prg:=⟨[116],[[120],[121]],[0,0],[a,b],1,.mk 0 0 0 0 []⟩
def sbP:Prg:=zhk [stI 0 1 0,ldI 0 1 0] [stI 1 1 0,ldI 0 0 0]
def mpP:Prg:=zhk [stI 0 1 0,stI 1 1 0] [ldI 1 1 0,ldI 0 0 0]
def raP:Prg:=zhk [stI 0 1 0,stI 1 1 2] [ldI 1 1 1,ldI 0 0 0]
def coP:Prg:=zhk [stI 0 1 0,ldI 0 0 0] []
theorem zvP:zcq sbP [0,1] 50=true:=by kernel_rfl
def zb9 (l:List ExD) (a b:UInt8):List ExD:=l.filter fun x=>decide (x.regs 0=a)&&decide (x.regs 8=b)
def zkU (x:ExD) (want:List UInt8):Bool:=(List.range want.length).all fun i=>decide (zgI (i+1) x=(want.getD i 0).toNat)&&(zdh (i+1) x == decide (want.getD i 0=0))
abbrev sbF:List ExD:=zb9 (qm sbP [0,1]) 0 0
abbrev mpF:List ExD:=zb9 (qm mpP [0,1]) 0 0
abbrev raF:List ExD:=zb9 (qm raP [0,1]) 0 0
abbrev coF:List ExD:=zb9 (qm coP [0,1]) 0 0
def zfT (l:List ExD) (i n:Nat) (want:List UInt8):Bool:=decide (l.length=n)&&(l.all zuD&&zkU (l.getD i (ex0 0)) want)
theorem zvS:zcq mpP [0,1] 50=true:=by kernel_rfl
theorem zvQ:zcq raP [0,1] 50=true:=by kernel_rfl
theorem zv1:zcq coP [0,1] 50=true:=by kernel_rfl
theorem zr7:zfT sbF 0 1 [0,3,0,0,0,0]=true:=by kernel_rfl
theorem zsw:zfT mpF 1 2 [0,3,3,0,0,0]=true:=by kernel_rfl
theorem zsj:zfT raF 1 2 [0,3,3,0,3,0]=true:=by kernel_rfl
theorem ztj:zfT coF 0 1 [1,1,1,1,1,1]=true:=by kernel_rfl
theorem zus:(mpF.getD 1 (ex0 0)).regs 9=1:=by kernel_rfl
theorem zud:(raF.getD 1 (ex0 0)).regs 9=1:=by kernel_rfl
theorem zt4:(qm sbP [0,1]).length<=30000:=JS (by kernel_rfl)
theorem zut:(qm mpP [0,1]).length<=30000:=JS (by kernel_rfl)
theorem zue:(qm raP [0,1]).length<=30000:=JS (by kernel_rfl)
theorem zuX:(qm coP [0,1]).length<=30000:=JS (by kernel_rfl)
section
variable {w:Wd}
theorem zmv {l v m:UInt8}:CB 21 #[u8 l,u8 v,u8 m] w (.agg (zE.enc (stI l v m)).toArray):=by
 refine qz 12 [u8 l,u8 v,u8 m] (.c .p .p) Tryz.func21 ?_;obtain⟨L,hL⟩:=nm (w.heap.size);refine⟨Unit,fun _=>⟨[(0,u8 l),(1,u8 v),(2,u8 m),(6,At0 L)],[]⟩,fun _ X=>(∃ cs:Array Value,X.heap[L]?=some (.cells cs 55 (0,0))/\cs.size=10)/\Bw w X,⟨(),⟨.cons rfl (.cons rfl (.cons rfl (.cons (by rw [hL];rfl) .nil))),rfl⟩,⟨_,by rw [hL];exact zw w _,by kernel_rfl⟩,(zba w _)⟩,?_⟩;rintro _ X ⟨⟨cs,f0,hcs⟩,hbX⟩;refine⟨[.bool false,u8 v],by kernel_rfl,?_⟩;refine⟨zE.enc (stI l v m),by kernel_rfl,?_⟩;exact zt (v := .agg (zE.enc (stI l v m)).toArray) k55 f0 rfl hcs rfl ⟨zE.enc (stI l v m),rfl,za (zn f0),rfl,zl hbX (by omega) _⟩
theorem zmW {d l m:UInt8}:CB 22 #[u8 d,u8 l,u8 m] w (.agg (zE.enc (ldI d l m)).toArray):=by
 refine qz 11 [u8 d,u8 l,u8 m] (.c .p .p) Tryz.func22 ?_;obtain⟨L,hL⟩:=nm (w.heap.size);refine⟨Unit,fun _=>⟨[(0,u8 d),(1,u8 l),(2,u8 m),(6,At0 L)],[]⟩,fun _ X=>(∃ cs:Array Value,X.heap[L]?=some (.cells cs 55 (0,0))/\cs.size=10)/\Bw w X,⟨(),⟨.cons rfl (.cons rfl (.cons rfl (.cons (by rw [hL];rfl) .nil))),rfl⟩,⟨_,by rw [hL];exact zw w _,by kernel_rfl⟩,(zba w _)⟩,?_⟩;rintro _ X ⟨⟨cs,f0,hcs⟩,hbX⟩;refine⟨zE.enc (ldI d l m),by kernel_rfl,?_⟩;exact zt (v := .agg (zE.enc (ldI d l m)).toArray) k55 f0 rfl hcs rfl ⟨zE.enc (ldI d l m),rfl,za (zn f0),rfl,zl hbX (by omega) _⟩
theorem zsl {la lb:List InsD} {pa pb:OA} {ca cb b0 b1 b2:Nat} {i0:UInt8} {Y:Wd} (ha:RowB zE Y.heap.size Y pa la) (hb:RowB zE Y.heap.size Y pb lb) (hla:la.length<=1000) (hlb:lb.length<=1000) (hpa:∀ a,pa=some a->a.block<Y.heap.size) (hpb:∀ a,pb=some a->a.block<Y.heap.size)
  (g1:Y.heap[b0]?=some (.cells #[qJ [120],qJ [121]] 9 (0,0))) (g2:Y.heap[b1]?=some (.cells #[u8 i0,u8 0] 5 (0,0))) (g3:Y.heap[b2]?=some (.cells #[.slice pa la.length ca,.slice pb lb.length cb] 51 (0,0))) :
  PrgX Y.heap.size Y (ja (zhk la lb) (some ⟨b0,0,none⟩) 2 (some ⟨b1,0,none⟩) 2 (some ⟨b2,0,none⟩) 2 none 0) { zhk la lb with init:=[i0,0] }:=by
 have r3:RowB zoI Y.heap.size Y (some ⟨b2,0,none⟩) [(la,pa,ca),(lb,pb,cb)] := .inr ⟨b2,0,rfl,hlt g3,za g3⟩;have rows:∀ x∈[((la,pa,ca):znl),(lb,pb,cb)],RowB zE Y.heap.size Y x.2.1 x.1/\∀ a,x.2.1=some a->a.block<Y.heap.size:=by
  simp only [UE,Qx,Gm,forall_eq_or_imp,forall_eq];exact⟨⟨ha,hpa⟩,hb,hpb⟩
 refine⟨⟨⟨by show 1<=_;decide,by show 2<=_;decide,fun s hs=>?_,by show 2<=_;decide,by show 2<=_;decide,fun l hl=>?_⟩,some ⟨b0,0,none⟩,2,some ⟨b1,0,none⟩,2,some ⟨b2,0,none⟩,2,none,0,rfl,?_,?_,?_,?_,?_⟩,?_,?_⟩
 ·have hs:s=[120]\/s=[121]:=by simpa [zhk] using hs
  rcases hs with rfl | rfl <;> decide
 ·have hl:l=la\/l=lb:=by simpa [zhk] using hl
  rcases hl with rfl | rfl <;> omega
 ·exact .inr ⟨b0,0,rfl,hlt g1,za g1⟩
 ·exact .inr ⟨b1,0,rfl,hlt g2,za g2⟩
 ·exact⟨[(la,pa,ca),(lb,pb,cb)],rfl,r3,fun x hx=>(rows x hx).1⟩
 ·exact .mk none [] (by decide) 0 0 (.inl rfl) (fun _=>none) (fun _=>0) (fun i hi=>by simp at hi) (fun i hi=>by simp at hi)
 ·exact UX 2
 ·exact⟨some ⟨b2,0,none⟩,2,rfl,[(la,pa,ca),(lb,pb,cb)],rfl,r3,fun x hx=>⟨(rows x hx).1,fun _=>(rows x hx).2⟩⟩
 ·exact⟨some ⟨b1,0,none⟩,2,rfl,.inr ⟨b1,0,rfl,hlt g2,za g2⟩⟩
theorem zt1 {la lb:List InsD} {pa pb:OA} {ca cb:Nat} :
  Calls PG 14 #[.slice pa la.length ca,.slice pb lb.length cb] w fun e w'=>(∃ b0 b1 b2:Nat,e = .returned (.agg (ja (zhk la lb) (some ⟨b0,0,none⟩) 2 (some ⟨b1,0,none⟩) 2 (some ⟨b2,0,none⟩) 2 none 0).toArray) /\
   w.heap.size<=b1/\b0≠b1/\b1≠b2/\w'.heap[b0]?=some (.cells #[qJ [120],qJ [121]] 9 (0,0))/\w'.heap[b1]?=some (.cells #[u8 0,u8 0] 5 (0,0))/\w'.heap[b2]?=some (.cells #[.slice pa la.length ca,.slice pb lb.length cb] 51 (0,0)))/\Bw w w':=by
 refine qz 11 [.slice pa la.length ca,.slice pb lb.length cb] (.c .p .p) Tryz.func14 ?_;obtain⟨L,hL⟩:=nm (w.heap.size);refine⟨Unit,fun _=>⟨[(0,.slice pa la.length ca),(1,.slice pb lb.length cb),(4,At0 L)],[]⟩,fun _ X=>(∃ cs:Array Value,X.heap[L]?=some (.cells cs 29 (0,0))/\cs.size=10)/\X.heap.size=L+1/\Bw w X,⟨(),⟨.cons rfl (.cons rfl (.cons (by rw [hL];rfl) .nil)),rfl⟩,⟨_,by rw [hL];exact zw w _,by kernel_rfl⟩,by rw [wz,hL],(zba w _)⟩,?_⟩;rintro _ W ⟨⟨cs,fL,hcs⟩,sW,hbW⟩;obtain⟨W1,hW1⟩:=nm (W.alloc (.cells #[qJ [120],qJ [121]] 9));obtain⟨W2,hW2⟩:=nm (W1.alloc (.cells #[u8 0,u8 0] 5));obtain⟨W3,hW3⟩:=nm (W2.alloc (.cells #[.slice pa la.length ca,.slice pb lb.length cb] 51));have hb1:Bw W W1:=by rw [hW1];exact (zba W _)
 have hb2:Bw W1 W2:=by rw [hW2];exact (zba W1 _)
 have hb3:Bw W2 W3:=by rw [hW3];exact (zba W2 _)
 have f1:W1.heap[W.heap.size]?=some (.cells #[qJ [120],qJ [121]] 9 (0,0)):=by rw [hW1];exact zw W _
 have f2:W2.heap[W1.heap.size]?=some (.cells #[u8 0,u8 0] 5 (0,0)):=by rw [hW2];exact zw W1 _
 have f3:W3.heap[W2.heap.size]?=some (.cells #[.slice pa la.length ca,.slice pb lb.length cb] 51 (0,0)):=by rw [hW3];exact zw W2 _
 have s1:W1.heap.size=L+2:=by rw [hW1,wz,sW]
 have s2:W2.heap.size=L+3:=by rw [hW2,wz,s1]
 have s3:W3.heap.size=L+4:=by rw [hW3,wz,s2]
 refine⟨⟨by decide,by decide,rfl⟩,[qJ [120],qJ [121]],rfl,?_⟩;have hW1':W.alloc (.cells [qJ [120],qJ [121]].toArray 9)=W1:=hW1.symm;rw [hW1'];refine⟨⟨by decide,by decide,rfl⟩,[u8 0,u8 0],rfl,?_⟩;have hW2':W1.alloc (.cells [u8 0,u8 0].toArray 5)=W2:=hW2.symm;rw [hW2'];refine⟨⟨by decide,by decide,rfl⟩,[.slice pa la.length ca,.slice pb lb.length cb],rfl,?_⟩;have hW3':W2.alloc (.cells [.slice pa la.length ca,.slice pb lb.length cb].toArray 51)=W3:=hW3.symm;rw [hW3'];obtain⟨vs,hvs⟩:=nm (ja (zhk la lb) (some ⟨W.heap.size,0,none⟩) 2 (some ⟨W1.heap.size,0,none⟩) 2 (some ⟨W2.heap.size,0,none⟩) 2 none 0);refine⟨vs,by rw [hvs];rfl,?_⟩;have hb12:=zst hb1 hb2;have hbW3:Bw W W3:=hb12.trans (hb3.mono (UO hb1.size hb2.size));have fL3:W3.heap[L]?=some (.cells cs 29 (0,0)):=zb hbW3 fL;have hlen:vs.length=10:=by rw [hvs];rfl
 have hone:vs.all Value.oneCell'=true:=by rw [hvs];rfl
 refine zt (v := .agg vs.toArray) k29 fL3 hlen hcs hone ?_;obtain⟨Y,hY⟩:=nm (W3.setRow L (Value.agg vs.toArray).cells);rw [<- hY];have fY:Y.heap[L]?=some (.cells vs.toArray 29 (0,0)):=by rw [hY];exact zn fL3
 have oY:∀ k,k≠L->Y.heap[k]?=W3.heap[k]?:=fun k hk=>by rw [hY];exact zq hk
 have sY:Y.heap.size=W3.heap.size:=by rw [hY];simp
 have bY:Bw w Y:=by rw [hY];exact zl ((zst hbW hbW3)) (by omega) _
 refine⟨vs,hlen,za fY,⟨W.heap.size,W1.heap.size,W2.heap.size,by rw [hvs];rfl,by omega,by omega,by omega,?_,?_,?_⟩,bY⟩
 ·exact (oY _ (by omega)).trans (zb hb3 (zb hb2 f1))
 ·exact (oY _ (by omega)).trans (zb hb3 f2)
 ·exact (oY _ (by omega)).trans f3
theorem znt {la lb:List InsD} {pa pb:OA} {ca cb:Nat} (ha:RowB zE w.heap.size w pa la) (hb:RowB zE w.heap.size w pb lb) (hla:la.length<=1000) (hlb:lb.length<=1000) (hpa:∀ a,pa=some a->a.block<w.heap.size) (hpb:∀ a,pb=some a->a.block<w.heap.size) :
  Calls PG 14 #[.slice pa la.length ca,.slice pb lb.length cb] w fun e w'=>(∃ vs:List Value,e = .returned (.agg vs.toArray)/\PrgX w'.heap.size w' vs (zhk la lb))/\Bw w w':=by
 refine cmo zt1 ?_;rintro e Y ⟨⟨b0,b1,b2,rfl,_,_,_,g1,g2,g3⟩,bY⟩;have sY:=bY.size;exact⟨⟨_,rfl,zsl ((ha.below bY).mono sY) ((hb.below bY).mono sY) hla hlb (fun a h=>nL (hpa a h) sY) (fun a h=>nL (hpb a h) sY) g1 g2 g3⟩,bY⟩
end
theorem zhb (x:ExD) (q:OA) (c:Nat) {i:Nat} (hi:i<32):(exC x q c)[295+i]?=some (u8 (x.regs i)):=by
 obtain⟨A,T,hA,hE⟩:=zoc x q c [];have:=hE x.regs;rw [QL] at this;show (exC { x with regs:=x.regs } q c)[295+i]?=_;rw [this,q8 hA,Jr (by rw [zD];exact hi),zbJ (n:=32) (fun i=>u8 (x.regs i)) hi]
section
variable {w:Wd} {B:Nat} {pc:List Value} {p:Prg} {V:List UInt8} {a b:UInt8}
theorem zgE (l:List ExD) (x:ExD):zb9 (l++[x]) a b=zb9 l a b++if (decide (x.regs 0=a)&&decide (x.regs 8=b))=true then [x] else []:=by
 unfold zb9;rw [Kw,Qp,List.filter_nil]
theorem zha (hB:B<=w.heap.size) (hP:PrgX B w pc p) (hG:GlobE w) (hQ:zcq p V 50=true) (hlen:(qm p V).length<=30000) :
  Calls PG 20 #[.agg pc.toArray,u8 a,u8 b] w fun e w'=>(∃ (xs:List zca) (q:OA) (c:Nat),e = .returned (.slice q xs.length c)/\xs.map (·.1)=zb9 (qm p V) a b/\SlR exE w' q xs/\∀ x∈xs,SlR evE w' x.2.1 x.1.ev)/\Bw w w':=by
 refine qz 45 [.agg pc.toArray,u8 a,u8 b] (.c .p (.c .p (.c .p (.c .p .p)))) Tryz.func20 ?_;obtain⟨L,hL⟩:=nm (w.heap.size);have hpc:=hP.v.size;refine⟨Unit,fun _=>⟨[(1,u8 a),(2,u8 b),(3,At0 L)],[]⟩,fun _ X=>X.heap[L]?=some (.cells pc.toArray 29 (0,0))/\Bw w X,⟨(),⟨.cons rfl (.cons rfl (.cons (by rw [hL];rfl) .nil)),rfl⟩,by rw [hL];exact zw w _,(zba w _)⟩,?_⟩;rintro _ X ⟨f0,hbX⟩;refine⟨Unit,fun _=>⟨[(1,u8 a),(2,u8 b),(3,At0 L),(7,.slice none 0 0)],[]⟩,fun _ Y=>X=Y,⟨(),(cvE rfl rfl),rfl⟩,?_⟩;rintro _ _ rfl;have hXs:=hbX.size;refine⟨List zca×OA×Nat,fun s=>⟨[(1,u8 a),(2,u8 b),(7,.slice none 0 0),(8,.slice s.2.1 s.1.length s.2.2)],[]⟩,fun s Y=>s.1.map (·.1)=qm p V/\OwnS exE 46 X.heap.size Y s.2.1 s.2.2 s.1/\(∀ x∈s.1,OwnS evE 49 X.heap.size Y x.2.1 x.2.2 x.1.ev)/\Bw w Y,?_,?_⟩
 ·refine⟨pc,hpc,za f0,hlt f0,cmo (zrV (most:=50) (UO hB hXs) (hP.below (hbX.mono hB)) (hG.below hbX) (by decide) hQ) ?_⟩;rintro e Y ⟨⟨xs,q,c,rfl,h1,h2,h3⟩,hbY⟩;exact⟨(xs,q,c),(cvE rfl rfl),h1,h2,h3,hbX.trans (hbY.mono hXs)⟩
 rintro⟨xs,q,c⟩ Y ⟨hxs,oX,hev,hbY⟩;dsimp only at hxs oX hev ⊢;obtain⟨D,hD⟩:=nm (Y.heap.size);have hxl:xs.length<=30000:=by
  have:=Gk List.length hxs;rw [QO] at this;omega
 refine⟨List zca×OA×Nat,fun s=>⟨[(7,.slice s.2.1 s.1.length s.2.2)],[]⟩,fun s Z=>s.1.map (·.1)=zb9 (qm p V) a b/\(∀ x∈s.1,x∈xs)/\OwnS exE 46 D Z s.2.1 s.2.2 s.1/\Below D Y Z,?_,?_⟩
 ·refine⟨Nat×List zca×OA×Nat,fun s=>⟨[(1,u8 a),(2,u8 b),(7,.slice s.2.2.1 s.2.1.length s.2.2.2),(17,.slice q xs.length c),(18,i64 xs.length),(19,i64 (s.1:Nat))],[]⟩,
   fun s Z=>s.1<=xs.length/\s.2.1.map (·.1)=zb9 ((xs.take s.1).map (·.1)) a b/\(∀ x∈s.2.1,x∈xs)/\s.2.1.length<=s.1/\OwnS exE 46 D Z s.2.2.1 s.2.2.2 s.2.1/\Below D Y Z,fun s=>xs.length-s.1,(0,[],none,0),
   (cvE rfl rfl),⟨Ga _,rfl,fun x hx=>(by cases hx),UX _,OwnS.nil,by rw [hD];exact Gc _ _⟩,?_⟩
  rintro⟨k,out,po,co⟩ Z ⟨hk,hout,hmem,hlo,oZ,hbZ⟩;dsimp only at hk hout hmem hlo oZ ⊢;have hZs:D<=Z.heap.size:=by have:=hbZ.size;omega
  refine biE (fun hc=>?_) fun hc=>?_
  ·have hc:(k:Int)<(xs.length:Int):=dT hc;have hkl:k<xs.length:=by omega
   obtain⟨bx,ox,hq,hbx,hat⟩:=oX.row.at hkl;obtain⟨y,hy⟩:∃ y,xs[k]=y:=⟨_,rfl⟩;have hym:y∈xs:=by rw [<- hy];exact gM hkl
   have htk:(xs.take (k+1)).map (·.1)=(xs.take k).map (·.1)++[y.1]:=by rw [tsg hkl,hy,QS];rfl
   have hatk:=hat k hkl;rw [hy] at hatk;have hatk:zG Y ⟨bx,ox+k*333,none⟩ (exC y.1 y.2.1 y.2.2):=hatk;subst hq;refine⟨k,rfl,hkl,exC y.1 y.2.1 y.2.2,zC _ _ _,zZ hbZ (by show bx<D;omega) hatk,by show bx<_;omega,?_⟩;refine zo (X:=Z) (v := .agg (exC y.1 y.2.1 y.2.2).toArray) k46 (zC _ _ _) jC (zbj _ _ _) fun U hbU fU sU=>?_;have fU:ExH U Z.heap.size y.1 y.2.1 y.2.2:=fU;have oU:=oZ.below hbU;have hbU2:=hbZ.trans (hbU.mono hZs);have hUs:D<=U.heap.size:=by omega
   have e0:(exC y.1 y.2.1 y.2.2)[295]?=some (u8 (y.1.regs 0)):=zhb y.1 y.2.1 y.2.2 (i:=0) (by decide);have e8:(exC y.1 y.2.1 y.2.2)[303]?=some (u8 (y.1.regs 8)):=zhb y.1 y.2.1 y.2.2 (i:=8) (by decide);have skip:(decide (y.1.regs 0=a)&&decide (y.1.regs 8=b))=false->(k+1<=xs.length/\out.map (·.1)=zb9 ((xs.take (k+1)).map (·.1)) a b/\(∀ x∈out,x∈xs)/\out.length<=k+1/\OwnS exE 46 D U po co out/\Below D Y U):=fun h =>
    ⟨hkl,by rw [htk,zgE,h,hout];simp,hmem,by omega,oU,hbU2⟩
   refine⟨0,rfl,by decide,?_⟩;refine⟨0,rfl,by decide,?_⟩;refine⟨u8 (y.1.regs 0),zc (za fU) e0,biE (fun h1=>?_) fun h1=>?_⟩
   ·have h1:y.1.regs 0=a:=qA.1 (dT h1);refine⟨1,rfl,by decide,?_⟩;refine⟨0,rfl,by decide,?_⟩;refine⟨u8 (y.1.regs 8),zc (za fU) e8,biE (fun h2=>?_) fun h2=>?_⟩
    ·have h2:y.1.regs 8=b:=qA.1 (dT h2);have hp:(decide (y.1.regs 0=a)&&decide (y.1.regs 8=b))=true:=(by rw [Ut h1,Ut h2];rfl);refine⟨exC y.1 y.2.1 y.2.2,zC _ _ _,za fU,hlt fU,⟨by decide,by decide,jC⟩,exE.enc y,zbh (zC _ _ _) jC,?_⟩;have hb2:Bw U (U.alloc (.cells (exE.enc y).toArray 46)):=zba _ _;have sb2:=hb2.size;unfold zer zaK;show SatR _ _;refine jJ Tryz.underlying30 k46 rfl rfl jC (oU.below hb2) (news:=[y]) rfl (qW exE y) (by omega) (by show out.length+1<=_;omega) (by show (out.length+1)*2416<=_;omega) fun p' c' S oS gS hbS hat2=>nxI (by omega) ?_;exact⟨(k+1,out++[y],p',c'),(cvE rfl rfl),⟨hkl,by rw [htk,zgE,Gq hp,QS,hout];rfl,fun x hx=>(by
      rcases QT.1 hx with h | h
      ·exact hmem x h
      ·rw [KB.1 h];exact hym),by rw [lap];show _+1<=_;omega,oS,(hbU2.trans (hb2.mono hUs)).trans hbS⟩,zdc (by omega)⟩
    ·have h2:¬ y.1.regs 8=b:=fun e2=>(dF h2) (by rw [e2]);exact nxI (by omega) ⟨(k+1,out,po,co),(cvE rfl rfl),skip (by rw [Ui h2,Uj]),zdc (by omega)⟩
   ·have h1:¬ y.1.regs 0=a:=fun e2=>(dF h1) (by rw [e2]);exact brF (nxI (by omega) ⟨(k+1,out,po,co),(cvE rfl rfl),skip (by rw [Ui h1];rfl),zdc (by omega)⟩)
  ·have hc:¬ (k:Int)<(xs.length:Int):=dF hc;obtain rfl:k=xs.length:=by omega
   rw [Qy,hxs] at hout;exact⟨(out,po,co),(cvE rfl rfl),hout,hmem,oZ,hbZ⟩
 rintro⟨out,po,co⟩ Z ⟨hout,hmem,oZ,hbZ⟩;dsimp only at hout hmem oZ ⊢;have hwY:=hbY.size;exact⟨⟨out,po,co,rfl,hout,oZ.row,fun x hx=>((hev x (hmem x hx)).below (hbZ.mono (by omega))).row⟩,hbY.trans (hbZ.mono (by omega))⟩
end
theorem zpP (u:Nat):IntKind.u8.wrap (u:Int)=((UInt8.ofNat u).toNat:Int):=by
 have:=KI (n:=u);simp [IntKind.wrap,IntKind.bits,IntKind.signed] at this ⊢
 try omega
theorem zrb (d:Nat) (a b:Bool) (w:Wd):(Op.equalIn (d+1) 4 (.bool a) (.bool b)).run PG w = .ok (decide (a=b)) w:=by
 simp only [Op.equalIn,UU,Uu Tryz.underlying4,Qb,UV]
 cases a <;> cases b <;> rfl
theorem zjg (x y:Operand) (a b:Bool) (w:Wd):(do eqGuard .neq 4 x y (.bool a) (.bool b);binOp .neq 4 (.bool a) (.bool b)).run PG w = .ok (.bool (!decide (a=b))) w:=by
 have h:(Op.equal 4 (.bool a) (.bool b)).run PG w = .ok (decide (a=b)) w:=zrb 9999 a b w;have h1:(eqGuard .neq 4 x y (.bool a) (.bool b)).run PG w = .ok () w:=rfl;rw [UU,h1];simp only [Qb,binOp,UU,h,UV]
section
variable {w:Wd} {c cw:Nat} {x:ExD} {q pw:OA} {ws:List UInt8}
theorem zqe (h:zkU x ws=true) {i:Nat} (hi:i<ws.length):zgI (i+1) x=ws[i].toNat/\zdh (i+1) x=decide (ws[i]=0):=by
 unfold zkU at h;rw [Ql] at h;have:=h i (Up.2 hi);rw [bAT,dE,beq_iff_eq,gDe,gE hi] at this;exact this
theorem zjW (hv:ExV w x q) (hT:Tz64M w) (hw:SlR zR w pw ws) (hs:zkU x ws=true) (h6:ws.length<=6):CB 23 #[.agg (exC x q c).toArray,.slice pw ws.length cw] w (.bool true):=by
 refine qz 32 [.agg (exC x q c).toArray,.slice pw ws.length cw] (.c .p (.c .p .p)) Tryz.func23 ?_;obtain⟨L,hL⟩:=nm (w.heap.size);refine⟨Unit,fun _=>⟨[(1,.slice pw ws.length cw),(2,At0 L)],[]⟩,fun _ X=>ExH X L x q c/\Bw w X,⟨(),⟨.cons rfl (.cons (by rw [hL];rfl) .nil),rfl⟩,by rw [hL];exact zw w _,(zba w _)⟩,?_⟩;rintro _ X ⟨fX,hbX⟩;refine⟨Unit,fun _=>⟨[],[]⟩,fun _ Y=>Bw w Y,?_,?_⟩
 ·refine⟨Nat,fun k=>⟨[(2,At0 L),(7,.slice pw ws.length cw),(8,i64 ws.length),(9,i64 (k:Nat))],[]⟩,fun k Y=>k<=ws.length/\ExH Y L x q c/\Bw w Y,fun k=>ws.length-k,0,
   (cvE rfl rfl),⟨Ga _,fX,hbX⟩,?_⟩
  clear fX hbX;rintro k Y ⟨hk,fY,hbY⟩;dsimp only;refine biE (fun hc=>?_) fun hc=>?_
  ·have hc:(k:Int)<(ws.length:Int):=dT hc;have hkl:k<ws.length:=by omega
   obtain⟨h1,h2⟩:=zqe hs hkl;obtain⟨bw,ow,hq,hbw,hat⟩:=(hw.below hbY).at hkl;obtain⟨v,hv2⟩:∃ v,ws[k]=v:=⟨_,rfl⟩;have hatk:=hat k hkl;rw [hv2] at hatk h1 h2;have hm:(UInt8.ofNat (k+1)).toNat=k+1:=by
    rw [KI];exact QE (by omega)
   subst hq;refine⟨k,rfl,hkl,u8 v,by have:=zc hatk (i:=0) (v:=u8 v) rfl;exact this,nxI (by omega) ⟨((UInt8.ofNat (k+1)).toNat:Int),zpP _,exC x q c,zC _ _ _,za fY,hlt fY,cmo (zrW (m:=UInt8.ofNat (k+1)) (hv.w.below hbY) (hT.below hbY)) ?_⟩⟩;rintro e Z ⟨rfl,hbZ⟩;rw [hm,h1];have bZ:=zst hbY hbZ;have fZ:=zb hbZ fY;have hvv:UInt8.ofNat v.toNat=v:=UInt8.ofNat_toNat;rw [hvv];refine biE (fun h=>?_) fun _=>?_
   ·have h:(!decide ((v.toNat:Int)=(v.toNat:Int)))=true:=h;rw [Ut rfl] at h
    cases h
   refine nxI (by omega) ⟨((UInt8.ofNat (k+1)).toNat:Int),zpP _,exC x q c,zC _ _ _,za fZ,hlt fZ,cmo (zkC (m:=UInt8.ofNat (k+1)) (hv.w.below bZ) (hT.below bZ)) ?_⟩;rintro e V ⟨rfl,hbV⟩;rw [hm,h2];have e0:decide (v=0)=decide ((v.toNat:Int)=0):=QH.2 (qA (x:=v) (y:=0)).symm;rw [e0];refine⟨_,fun w=>zjg _ _ _ _ w,biE (fun h=>?_) fun _=>?_⟩
   ·have h:(!decide (decide ((v.toNat:Int)=0)=decide ((v.toNat:Int)=0)))=true:=h;rw [Ut rfl] at h
    cases h
   exact nxI (by omega) ⟨k+1,(cvE rfl rfl),⟨hkl,zb hbV fZ,(zst bZ hbV)⟩,zdc (by omega)⟩
  ·exact⟨(),⟨.nil,rfl⟩,hbY⟩
 rintro _ Y hbY;exact⟨rfl,hbY⟩
end
end Go.Proofs.YtkpaomeeknegpaaGreatDoor
