/- Contracts of functions, and plain facts, for the law that the last text of this claim proves. -/
import Derived.Test.YtkpaomeeknegpaaGreatDoorF3
import Derived.Test.YtkpaomeeknegpaaGreatDoorF5
import Derived.Test.YtkpaomeeknegpaaGreatDoorF2
import Derived.Test.YtkpaomeeknegpaaGreatDoorF4
set_option linter.unusedSimpArgs false
set_option linter.unusedVariables false
namespace Go.Proofs.YtkpaomeeknegpaaGreatDoor
open Go.Vc Go.RowKit Go.Sei
section
variable {l:List InsD} {vals:List UInt8} {q p:OA} {cap cd:Nat} {w:Wd}
theorem zqB (hl:SlR zA w q l) (hp:SlR zR w p vals) (hv1:1<=vals.length) (hvm:vals.length<=60000) (hok:qy l 6=true) (hG:GlobE w) (hqb:l≠[]->∀ a,q=some a->a.block<w.heap.size) :
  Calls PG 74 #[.slice q l.length cap,.slice p vals.length cd,i64 4096] w fun e w'=>((∃ (xs:List zdv) (p':OA) (c':Nat),(qA l (jl vals)).length<=4096/\e = .returned (.tuple #[.slice p' xs.length c',i64 0])/\xs.map (·.1)=(qA l (jl vals)).map j4/\OwnS jT 138 w.heap.size w' p' c' xs/\∀ x∈xs,PthO w.heap.size w' x)\/(4096<(qA l (jl vals)).length/\e = .returned (.tuple #[.slice none 0 0,i64 5])))/\Bw w w':=by
 have ht:=ziR hok;have h12:l.length<=12:=ht.1;refine qk 45 [.slice q l.length cap,.slice p vals.length cd,i64 4096] (.c .p (.s .p (.c .p (.c .p (.c .p (.c .p .p)))))) Tryz.func74 ?_;obtain⟨L,hL⟩:=nm (w.heap.size);refine⟨Unit,fun _=>⟨[(0,.slice q l.length cap),(1,.slice p vals.length cd),(5,AtR L),(6,AtR (L+1)),(7,AtR (L+2))],[]⟩,fun _ X=>X.heap[L]?=some (.cells #[i64 4096] 3 (0,0))/\X.heap[L+1]?=some (.cells #[.slice none 0 0] 130 (0,0))/\X.heap[L+2]?=some (.cells #[i64 0] 56 (0,0))/\X.heap.size=L+3/\Bw w X,?_,?_⟩
 ·have s1:=wz w (.cells #[i64 4096] 3);have h2:=zy (w.alloc (.cells #[i64 4096] 3)) (.cells #[.slice none 0 0] 130);have s2:=wz (w.alloc (.cells #[i64 4096] 3)) (.cells #[.slice none 0 0] 130);have h3:=zy ((w.alloc (.cells #[i64 4096] 3)).alloc (.cells #[.slice none 0 0] 130)) (.cells #[i64 0] 56);have s3:=wz ((w.alloc (.cells #[i64 4096] 3)).alloc (.cells #[.slice none 0 0] 130)) (.cells #[i64 0] 56);rw [s1] at h2 s2;rw [s2] at h3 s3;refine⟨(),⟨.cons rfl (.cons rfl (.cons (by rw [hL];rfl) (.cons (by rw [hL,<- s1];rfl) (.cons (by rw [hL,<- s2];rfl) .nil)))),rfl⟩,?_,?_,?_,?_,?_⟩
  ·rw [hL];exact qJ _ (qJ _ (zy w _))
  ·rw [hL];exact qJ _ h2
  ·rw [hL];exact h3
  ·rw [hL];exact s3
  ·exact (((zba w _)).alloc (by simp) _).alloc (by simp;omega) _
 rintro _ X ⟨f0,f1,f2,sX,hbX⟩;refine⟨_,zc (za f0) (i:=0) rfl,brF ⟨_,zc (za f0) (i:=0) rfl,brF (cmo (zqR (hl.below hbX) (hG.c.below hbX) (by omega)) ?_)⟩⟩;rintro e Y ⟨rfl,hbY⟩;rw [hok];refine brF ?_;have hwY:=zst hbX hbY;have f0:=zb hbY f0;have f1:=zb hbY f1;have f2:=zb hbY f2;have sY:=hbY.size;obtain⟨D,hD⟩:=nm (jl vals);have hdl:D.length<=256:=by rw [hD];exact zdP vals
 have hR:∀ R∈qA l D,R.many<=24/\zum R:=fun R h=>⟨(zeT ht D R h).1,fun i _=>(zeT ht D R h).2 i⟩;rw [<- hD];refine⟨OA×Nat,fun s=>⟨[(0,.slice q l.length cap),(1,.slice s.1 D.length s.2),(5,AtR L),(6,AtR (L+1)),(7,AtR (L+2))],[]⟩,fun s Z=>OwnS zR 5 (L+3) Z s.1 s.2 D/\Bw Y Z,?_,?_⟩
 ·refine cmo (zdp (hp.below hwY) hv1 hvm) ?_;rintro e Z ⟨⟨d,cc,rfl,ho⟩,hbZ⟩;rw [<- hD] at ho;exact⟨(d,cc),⟨.cons rfl (.cons (by rw [hD];rfl) (.cons rfl (.cons rfl (.cons rfl .nil)))),rfl⟩,OwnS.lower ho (by omega),hbZ⟩
 rintro⟨d,cc⟩ Z ⟨oD,hbZ⟩;dsimp only at oD ⊢;have hwZ:=zst hwY hbZ;have f0:=zb hbZ f0;have f1:=zb hbZ f1;have f2:=zb hbZ f2;have sZ:=hbZ.size;obtain⟨N,hN⟩:=nm (Z.heap.size);refine⟨Unit,fun _=>⟨[(0,.slice q l.length cap),(1,.slice d D.length cc),(5,AtR L),(6,AtR (L+1)),(7,AtR (L+2)),(8,AtR N)],[]⟩,fun _ V=>V.heap[N]?=some (.cells [i64 0].toArray 3 (0,0))/\V.heap.size=N+1/\Bw Z V,?_,?_⟩
 ·exact zo (X:=Z) (v:=i64 0) k3 rfl rfl rfl fun V hbV fV sV=>⟨(),⟨.cons rfl (.cons rfl (.cons rfl (.cons rfl (.cons rfl (.cons (by rw [hN];rfl) .nil))))),rfl⟩,by rw [hN];exact fV,by rw [hN];exact sV,hbV⟩
 rintro _ V ⟨fN,sV,hbV⟩;have hwV:=zst hwZ hbV;have f0:=zb hbV f0;have f1:=zb hbV f1;have f2:=zb hbV f2;have dlt:∀ a,d=some a->a.block<N:=fun a ha=>by rw [hN];exact (zaJ oD ha).2.1
 have oD:=oD.below hbV;have hNZ:w.heap.size<=N:=by rw [hN];exact hwZ.size
 have hNL:L+3<=N:=by omega
 obtain⟨xs0,hxs0⟩:=nm (qA l D);rw [<- hxs0] at hR ⊢;have dge:∀ a,d=some a->L+3<=a.block:=fun a ha=>(zaJ oD ha).1;refine⟨Nat,fun D1=>⟨[(0,.slice q l.length cap),(1,.slice d D.length cc),(5,AtR L),(6,AtR (L+1)),(7,AtR (L+2)),(8,AtR N)],[{ target := .collected D1,args := #[] }]⟩,fun D1 U=>xs0.length<=4096/\U.heap[N]?=some (.cells #[i64 xs0.length] 3 (0,0))/\U.heap[D1]?=some (.deferred (some []))/\N<D1/\V.grownBy U (some N),?_,?_⟩
 ·refine cmo zjn ?_;rintro e W ⟨rfl,fi,fd,sW,hbW⟩;have hwW:=zst hwV hbW;have fNW:=zb hbW fN;have f0W:=zb hbW f0;have f1W:=zb hbW f1;have f2W:=zb hbW f2;have qlt:l≠[]->∀ a,q=some a->a.block<w.heap.size:=hqb;have hI:=zjm (q:=q) (p:=d) (hl.below hwW) (oD.below hbW).row fi fd (fun hne a ha=>by have:=qlt hne a ha;have:=hwW.size;omega) (fun a ha=>by have:=dlt a ha;omega) ht (by omega);rw [<- hxs0] at hI;obtain⟨F0,hF0⟩:∃ F0:Nat->Prop,F0=fun k=>k=N\/k=L+1\/k=L+2:=⟨_,rfl⟩;refine zdb (ze7 _) rfl (lb := #[AtR V.heap.size,AtR (V.heap.size+1)]) rfl rfl hI (UR _) (fun k hk=>⟨?_,rfl⟩) (fun pre vs W ⟨R,b,_,h,_⟩=>by rw [h];rfl) (by decide)
   F0 (fun pre F Y=>F=F0/\W.heap.size<=Y.heap.size/\pre.length<=4096/\Y.heap[N]?=some (.cells [i64 pre.length].toArray 3 (0,0))/\W.grownBy Y (some N))
   (fun ex pre F Y=>F=F0/\W.heap.size<=Y.heap.size/\ex = .ret/\4096<xs0.length/\Y.heap[L+1]?=some (.cells #[.slice none 0 0] 130 (0,0))/\Y.heap[L+2]?=some (.cells #[i64 5] 56 (0,0))/\Below L W Y) (fun k hk=>?_)
   (joG (F:=F0) (J:=fun (pre:List RunD) Y=>W.heap.size<=Y.heap.size/\pre.length<=4096/\Y.heap[N]?=some (.cells [i64 pre.length].toArray 3 (0,0))/\W.grownBy Y (some N)) (fun k h=>by rw [hF0] at h;omega) (fun s A h=>h.1) (fun pre A B ⟨h1,h2,h3,h4⟩ hb=>⟨UI h1 hb.size,h2,jn hb (by omega) h3,jq h4 hb⟩))
   (fun ex=>joG (F:=F0) (J:=fun (pre:List RunD) Y=>W.heap.size<=Y.heap.size/\ex = .ret/\4096<xs0.length/\Y.heap[L+1]?=some (.cells #[.slice none 0 0] 130 (0,0))/\Y.heap[L+2]?=some (.cells #[i64 5] 56 (0,0))/\Below L W Y) (fun k h=>by rw [hF0] at h;omega) (fun s A h=>h.1) (fun pre A B ⟨h1,h2,h3,h4,h5,h6⟩ hb=>⟨UI h1 hb.size,h2,h3,jn hb (by omega) h4,jn hb (by omega) h5,h6.trans (hb.mono (by omega))⟩))
   ⟨rfl,UR _,UU _,fNW,qg _ _⟩ ?_ ?_ ?_
  ·rcases hk with ((rfl | rfl) | ⟨hne,a,ha,rfl⟩ | ⟨a,ha,rfl⟩) | h
   ·omega
   ·omega
   ·have:=qlt hne a ha;have:=hwW.size;omega
   ·have:=dlt a ha;omega
   ·exact h.elim
  ·rw [hF0];rcases hk with (rfl | rfl) | ⟨hne,a,ha,rfl⟩ | ⟨a,ha,rfl⟩
   ·omega
   ·omega
   ·have:=qlt hne a ha;omega
   ·have:=dlt a ha;have:=dge a ha;omega
  ·rintro yl pre x vs F Y hyl hpre hJ ⟨R',b',_,rfl,_⟩ hfy hlo;refine⟨rfl,F,KeepsG.refl _ _,hJ,?_⟩;rintro o Y2 hY2 ⟨rfl,h1,h4,h2,h3⟩;have hpl:pre.length<xs0.length:=by
    obtain⟨t,ht⟩:=hpre;rw [<- ht];simp only [lap,Qp];omega
   have g0:Y2.heap[L]?=some (.cells #[i64 4096] 3 (0,0)):=(h3.block L (hlt f0W) (by simp;omega)).trans f0W;refine⟨_,zc (za h2) (i:=0) rfl,_,zc (za g0) (i:=0) rfl,biE (fun hc=>?_) fun hc=>?_⟩
   ·have hc:(pre.length:Int)=4096:=dT hc;have g1:Y2.heap[L+1]?=some (.cells #[.slice none 0 0] 130 (0,0)):=(h3.block (L+1) (hlt f1W) (by simp;omega)).trans f1W;have g2:Y2.heap[L+2]?=some (.cells #[i64 0] 56 (0,0)):=(h3.block (L+2) (hlt f2W) (by simp;omega)).trans f2W;refine zm zpJ g1 (o:=0) (v := .slice none 0 0) rfl rfl (by show 0<1;decide) rfl fun Z1 fZ1 gZ1 sZ1=>?_;have g2':=(gZ1.block (L+2) (hlt g2) (by simp)).trans g2;exact zm k56 g2' (o:=0) (v:=i64 5) rfl rfl (by show 0<1;decide) rfl fun Z2 fZ2 gZ2 sZ2=>⟨F,⟨rfl,by omega,rfl,by omega,(gZ2.block (L+1) (hlt fZ1) (by simp)).trans fZ1,fZ2,gZ2.os.trans (gZ1.os.trans h3.os),gZ2.tape.trans (gZ1.tape.trans h3.tape),gZ2.output.trans (gZ1.output.trans h3.output),by omega,fun k hk=>(gZ2.block k (by omega) (by simp;omega)).trans ((gZ1.block k (by omega) (by simp;omega)).trans (h3.block k (by omega) (by simp;omega)))⟩,(KeepsG.grown (F:=F) gZ1 (by rw [hF0];exact .inr (.inl rfl))).trans (KeepsG.grown (F:=F) gZ2 (by rw [hF0];exact .inr (.inr rfl)))⟩
   ·have hc:¬ (pre.length:Int)=4096:=dF hc;refine⟨_,zc (za h2) (i:=0) rfl,((pre.length+1:Nat):Int),(ze (by omega)).trans (by omega),zm k3 h2 (o:=0) (v:=i64 (pre.length+1:Nat)) rfl rfl (by show 0<1;decide) rfl fun Z fZ gZ sZ=>⟨_,⟨rfl,by omega,by rw [lap];show pre.length+1<=4096;omega,?_,zd h3 gZ⟩,KeepsG.grown (F:=F) gZ (by rw [hF0];exact .inl rfl)⟩⟩;rw [lap];exact fZ
  ·rintro D1 F Y hD hfD ⟨rfl,h1,h4,h2,h3⟩ hdef;refine⟨D1,(cvE rfl rfl),h4,h2,hdef,by omega,?_⟩;exact zd (zi hbW) h3
  ·rintro D ex pre F Y hD hfD hpre ⟨rfl,h1,rfl,hlong,g1,g2,hbY⟩ hdef;refine⟨_,rfl,hdef,.slice none 0 0,zc (za ((zj (by omega)).trans g1)) (i:=0) rfl,i64 5,zc (za ((zj (by omega)).trans g2)) (i:=0) rfl,.inr ⟨hlong,rfl⟩,?_⟩;have hwY:=hwW.trans (hbY.mono (by omega));exact q8 hwY (by have:=hwV.size;omega) _
 clear fN sV;rintro D1 U ⟨hm,fN,fD1,hND,gU⟩;have old:∀ {k:Nat} {o:Obj},k≠N->V.heap[k]?=some o->U.heap[k]?=some o:=fun {k o} hne h=>(gU.block k (hlt h) (by simpa using hne)).trans h;have sU:=gU.size;have hNV:=hbV.size;have f1:=old (by omega) f1;have f2:=old (by omega) f2;have oD:OwnS zR 5 (L+3) U d cc D:=oD.kept gU fun g hg e=>by
  have:g<N:=dlt _ hg;simp only [KW] at e;omega
 have hwU:Bw w U:=hwV.trans ⟨gU.os,gU.tape,gU.output,gU.size,fun k hk=>gU.block k (by have:=hwV.size;omega) (by simp;omega)⟩;clear f0 old gU hbV hwV;obtain⟨M,hM⟩:=nm (U.heap.size);have hDU:=hlt fD1;refine⟨OA×Nat,fun s=>⟨[(0,.slice q l.length cap),(1,.slice d D.length cc),(6,AtR (L+1)),(7,AtR (L+2)),(9,AtR (M+1))],[{ target := .collected D1,args := #[] }]⟩,fun s Z=>Z.heap[M+1]?=some (.cells [.slice s.1 0 s.2].toArray 130 (0,0))/\OwnS jT 138 M Z s.1 s.2 []/\(∀ a,s.1=some a->a.block=M)/\Z.heap.size=M+2/\Bw U Z,?_,?_⟩
 ·refine⟨_,zc (za fN) (i:=0) rfl,zdh (E:=jT) Tryz.underlying130 zog rfl rfl rfl xs0.length (by show 104*_<=_;omega) (by unfold maxLen;omega) fun Z oZ hbZ' sZ'=>zo (X:=Z) (v := .slice (some ⟨U.heap.size,0,none⟩) 0 xs0.length) zpJ rfl rfl rfl fun Z2 hbZ2 fZ2 sZ2=>?_⟩;rw [<- hM] at oZ sZ';rw [sZ'] at fZ2 sZ2;refine⟨(some ⟨M,0,none⟩,xs0.length),⟨.cons rfl (.cons rfl (.cons rfl (.cons rfl (.cons (by rw [<- sZ'];rfl) .nil)))),rfl⟩,by rw [hM] at fZ2 ⊢;exact fZ2,oZ.below hbZ2,fun a ha=>by cases ha;rfl,sZ2,hbZ'.trans (hbZ2.mono hbZ'.size)⟩
 clear fN;rintro⟨p0,c0⟩ V ⟨fV,oV,p0M,sV,hbV⟩;dsimp only at fV oV p0M;have f1:=zb hbV f1;have f2:=zb hbV f2;have fD1:=zb hbV fD1;have oD:=oD.below hbV;have hwV:=zst hwU hbV;have hMU:w.heap.size<=M:=by rw [hM];exact hwU.size
 have dlt2:∀ a,d=some a->a.block<N:=dlt;refine cmo zjn ?_;rintro e W ⟨rfl,fi,fd,sW,hbW⟩;have hwW:=zst hwV hbW;have hVM:Bw V W:=hbW;have hI:=zjm (q:=q) (p:=d) (hl.below hwW) (oD.below hbW).row fi fd (fun hne a ha=>by have:=hqb hne a ha;have:=hwW.size;omega) (fun a ha=>by have:=dlt a ha;omega) ht (by omega);rw [<- hxs0] at hI;refine zdb (ze7 _) rfl (lb := #[AtR V.heap.size,AtR (V.heap.size+1)]) rfl rfl hI (UR _) (fun k hk=>⟨?_,rfl⟩) (fun pre vs W ⟨R,b,_,h,_⟩=>by rw [h];rfl) (by decide)
  (fun k=>k=M+1\/k=M) (JPa M W.heap.size (M+1) W) (fun _ _ _ _=>False) (fun k hk=>?_)
  (JPa.iter (by omega) rfl) (fun ex=>⟨fun _ _ _ _ h=>h.elim,fun _ _ _ _ h=>h.elim⟩) ⟨⟨UR _,.inl rfl,fun k hk=>by omega⟩,⟨[],p0,c0,zb hbW fV,⟨oV.below hbW,fun a ha => .inr (p0M a ha)⟩,rfl,fun x hx=>(by cases hx)⟩,UW _ _⟩ ?_ ?_ ?_
 ·rcases hk with ((rfl | rfl) | ⟨hne,a,ha,rfl⟩ | ⟨a,ha,rfl⟩) | h
  ·omega
  ·omega
  ·have:=hqb hne a ha;have:=hwW.size;omega
  ·have:=dlt a ha;omega
  ·exact h.elim
 ·rcases hk with (rfl | rfl) | ⟨hne,a,ha,rfl⟩ | ⟨a,ha,rfl⟩
  ·omega
  ·omega
  ·have:=hqb hne a ha;omega
  ·have:=dlt a ha;omega
 ·rintro yl pre x vs F Y hyl hpre hJ ⟨R,b,hlast,rfl,fR⟩ hfy ⟨lo,hlo⟩;have hxR:x=R:=by simpa using hlast
  subst hxR;refine⟨rfl,F,KeepsG.refl _ _,hJ,?_⟩;rintro o Y2 hY2 ⟨⟨h1,h2,h3⟩,⟨xs,p,c,h4,h5,h6,h7⟩,h8⟩;have hbl:b≠yl:=fun e=>by
   rw [e] at fR;rw [fR] at hlo
   cases hlo
  have fR2:jw Y2 b x:=by rw [hY2];exact (zj hbl).trans fR
  have hmem:x∈xs0:=hpre.subset (by simp);obtain⟨r1,r2⟩:=hR x hmem;have hxl:xs.length=pre.length:=by
   have:=Gd List.length h6;rw [QI,QI] at this;exact this
  have hpl:pre.length<xs0.length:=by
   obtain⟨t,ht⟩:=hpre;rw [<- ht];simp only [lap,Qp];omega
  have hwY2:Bw w Y2:=hwW.trans (h8.mono hMU);have hd2:Bw Y2 Y2.drew:=(UW _ _).drew;have hwY2d:Bw w Y2.drew:=zst hwY2 hd2;refine DrawE.ord [4,5] [0,1,2,3,4,5] (by kernel_rfl) ⟨_,zc (za (hdr h4)) (i:=0) rfl,cmo (zs5 (hdr fR2) r1 r2 (hG.t32.below hwY2d)) ?_⟩;rintro e Y3 ⟨⟨q1,k1,q2,k2,q3,k3,q4,k4,rfl,o1,o2,o3,o4⟩,hb3⟩;refine⟨hb3,?_⟩;obtain⟨nx,hnx⟩:∃ nx:zdv,nx=(j4 x,(q1,k1),(q2,k2),(q3,k3),(q4,k4)):=⟨_,rfl⟩;have hen:zhP (j4 x) q1 k1 q2 k2 q3 k3 q4 k4=jT.enc nx:=by rw [hnx];rfl
  rw [hen];refine⟨⟨by decide,by decide,rfl⟩,jT.enc nx,zaZ (jT.len nx) rfl,?_⟩;have hba:Bw Y3 (Y3.alloc (.cells (jT.enc nx).toArray 138)):=zba _ _;have sa:(Y3.alloc (.cells (jT.enc nx).toArray 138)).heap.size=Y3.heap.size+1:=wz _ _;have s3:Y2.heap.size<=Y3.heap.size:=hb3.size;refine⟨hba,?_⟩;have hb2:Bw Y2 (Y3.alloc (.cells (jT.enc nx).toArray 138)):=(hd2.trans hb3).trans (hba.mono s3);refine jj (E:=jT) (T:=138) (B:=M) (l:=xs) (news:=[nx]) (cap:=c) (m:=1) Tryz.underlying130 zog rfl rfl rfl (h5.own.below hb2) rfl (qK jT nx) (by omega) (by omega) (by show (xs.length+1)*104<=_;omega) ?_;intro p2 c2 Y5 o5 g5 hb5 hat;have h4':Y5.heap[M+1]?=some (.cells [.slice p xs.length c].toArray 130 (0,0)):=by
   refine (g5.block (M+1) (hlt (zb hb2 h4)) fun e=>?_).trans (zb hb2 h4)
   cases hp:p with
   | none=>rw [hp] at e;simp [Value.ownBlock] at e
   | some a =>
    rw [hp] at e;simp only [Value.ownBlock,KW] at e;obtain⟨_,_,cur,hcur⟩:=zaJ h5.own hp;rw [<- e] at hcur;rw [hcur] at h4;simp at h4
  refine zm zpJ h4' (o:=0) (v := .slice p2 (xs++[nx]).length c2) rfl rfl (by show 0<1;decide) rfl fun Z fZ gZ sZ=>?_;have s5:=g5.size;have wr:∀ k,k<Y2.heap.size->k≠M+1->(∀ a,p=some a->k≠a.block)->Z.heap[k]?=Y2.heap[k]?:=fun k hk hne hnp=>by
   refine (gZ.block k (by omega) (by simpa using hne)).trans ((g5.block k (by omega) fun e=>?_).trans (hb2.block k hk))
   cases hp:p with
   | none=>rw [hp] at e;simp [Value.ownBlock] at e
   | some a =>
    rw [hp] at e;simp only [Value.ownBlock,KW] at e;exact hnp a hp e
  have new:∀ k,Y2.heap.size<=k->k<Y3.heap.size->Z.heap[k]?=Y3.heap[k]?:=fun k hk1 hk2=>by
   refine (gZ.block k (by omega) (by simp;omega)).trans ((g5.block k (by omega) fun e=>?_).trans (hba.block k hk2))
   cases hp:p with
   | none=>rw [hp] at e;simp [Value.ownBlock] at e
   | some a =>
    rw [hp] at e;simp only [Value.ownBlock,KW] at e;have:=h3 _ (h5.inF a hp);omega
  have tyne:∀ {α:Type} {E:Enc α} {T c:Nat} {r:OA} {B:Nat} {ll:List α},T≠138->T≠130->OwnS E T B Y2 r c ll->∀ a,r=some a->Z.heap[a.block]?=Y2.heap[a.block]?:=fun {α E T c r B ll} t1 t2 ho a ha=>by
   obtain⟨_,hl2,cur,hcur⟩:=zaJ ho ha;refine wr _ hl2 (fun e=>?_) (fun a' ha' e=>?_)
   ·rw [e,h4] at hcur;simp at hcur;exact t2 hcur.2.symm
   ·obtain⟨_,_,cur',hcur'⟩:=zaJ h5.own ha';rw [e,hcur'] at hcur;simp at hcur;exact t1 hcur.2.symm
  have inNew:∀ {α:Type} {E:Enc α} {T c:Nat} {r:OA} {ll:List α},OwnS E T Y2.drew.heap.size Y3 r c ll->RowIn E T W.heap.size (fun k=>F k\/(Y2.heap.size<=k/\k<Z.heap.size)) Z r c ll:=fun {α E T c r ll} ho=>by
   refine⟨OwnS.lower (ho.same fun a ha=>?_) h1,fun a ha=>?_⟩
   ·have:=zaJ ho ha;exact new _ this.1 this.2.1
   ·have h:=zaJ ho ha;have ha1:Y2.heap.size<=a.block:=h.1;exact .inr ⟨ha1,by have:=h.2.1;omega⟩
  refine⟨fun k=>F k\/(Y2.heap.size<=k/\k<Z.heap.size),⟨⟨by omega,.inl h2,fun k hk=>?_⟩,⟨xs++[nx],p2,c2,fZ,⟨o5.kept gZ fun g hg e=>?_,fun a ha=>?_⟩,?_,fun y hy=>?_⟩,?_⟩,⟨gZ.os.trans (g5.os.trans hb2.os),gZ.tape.trans (g5.tape.trans hb2.tape),gZ.output.trans (g5.output.trans hb2.output),by omega,fun k hk hf=>wr k hk (fun e=>hf (by rw [e];exact h2)) (fun a ha e=>hf (by rw [e];exact h5.inF a ha)),fun k hk=>hk.imp id fun h=>h.1⟩⟩
  ·rcases hk with hk | hk
   ·have:=h3 k hk;omega
   ·exact hk.2
  ·have:=zaJ o5 hg;obtain⟨_,_,cur,hcur⟩:=this;simp only [KW] at e;have hcur:Y5.heap[g]?=_:=hcur;rw [<- e,h4'] at hcur;simp at hcur
  ·rcases hat a ha with h | h
   ·exact .inl (h5.inF a h)
   ·have:=(zaJ o5 ha).2.1;exact .inr ⟨by omega,by omega⟩
  ·rw [QL,h6,QL,hnx];rfl
  ·rcases QM.1 hy with hy | hy
   ·have h:=h7 y hy;have st:∀ {α:Type} {E:Enc α} {T c:Nat} {r:OA} {ll:List α},T≠138->T≠130->RowIn E T W.heap.size F Y2 r c ll->RowIn E T W.heap.size (fun k=>F k\/(Y2.heap.size<=k/\k<Z.heap.size)) Z r c ll:=fun {α E T c r ll} t1 t2 hh=>⟨hh.own.same fun a ha=>tyne t1 t2 hh.own a ha,fun a ha => .inl (hh.inF a ha)⟩;exact⟨st (by decide) (by decide) h.1,st (by decide) (by decide) h.2.1,st (by decide) (by decide) h.2.2.1,st (by decide) (by decide) h.2.2.2⟩
   ·simp only [Ky] at hy;subst hy;rw [hnx];exact⟨inNew o1,inNew o2,inNew o3,inNew o4⟩
  ·refine h8.trans ⟨gZ.os.trans (g5.os.trans hb2.os),gZ.tape.trans (g5.tape.trans hb2.tape),gZ.output.trans (g5.output.trans hb2.output),by omega,fun k hk=>wr k (by omega) (by omega) fun a ha=>?_⟩;have:=(zaJ h5.own ha).1;omega
 ·rintro D2 F Y hD hfD ⟨⟨h1,h2,h3⟩,⟨xs,p,c,h4,h5,h6,h7⟩,h8⟩ hdef;have g1:Y.heap[L+1]?=some (.cells #[.slice none 0 0] 130 (0,0)):=(h8.block (L+1) (by omega)).trans (zb hbW f1);have g2:Y.heap[L+2]?=some (.cells #[i64 0] 56 (0,0)):=(h8.block (L+2) (by omega)).trans (zb hbW f2);have gD:Y.heap[D1]?=some (.deferred (some [])):=(h8.block D1 (by omega)).trans (zb hbW fD1);refine⟨_,zc (za h4) (i:=0) rfl,zm zpJ g1 (o:=0) (v := .slice p xs.length c) rfl rfl (by show 0<1;decide) rfl fun Z1 fZ1 gZ1 sZ1=>?_⟩;have g2':=(gZ1.block (L+2) (hlt g2) (by simp)).trans g2;refine zm k56 g2' (o:=0) (v:=i64 0) rfl rfl (by show 0<1;decide) rfl fun Z2 fZ2 gZ2 sZ2=>?_;have hYs:M<Y.heap.size:=by omega
  have k2:∀ k,k<Y.heap.size->k≠L+1->k≠L+2->Z2.heap[k]?=Y.heap[k]?:=fun k hk n1 n2=>(gZ2.block k (by rw [sZ1];exact hk) (by simpa using n2)).trans (gZ1.block k hk (by simpa using n1));have hdef2:=(k2 D2 (hlt hdef) (by omega) (by omega)).trans hdef;have hD12:=(k2 D1 (hlt gD) (by omega) (by omega)).trans gD;have fZ1':=(gZ2.block (L+1) (hlt fZ1) (by simp)).trans fZ1;have neD:D1≠D2:=by omega
  refine⟨_,rfl,hdef2,_,rfl,(zj neD).trans hD12,?_⟩;obtain⟨Zf,hZf⟩:=nm ((Z2.putObj D2 (.deferred none)).putObj D1 (.deferred none));have kf:∀ k,k≠D1->k≠D2->Zf.heap[k]?=Z2.heap[k]?:=fun k n1 n2=>by rw [hZf];exact (zj n1).trans (zj n2)
  refine⟨.slice p xs.length c,?_,i64 0,?_,.inl ⟨xs,p,c,hm,rfl,h6,?_,fun x hx=>?_⟩,?_⟩
  ·exact zc (za (by rw [<- hZf];exact (kf (L+1) (by omega) (by omega)).trans fZ1')) (i:=0) rfl
  ·exact zc (za (by rw [<- hZf];exact (kf (L+2) (by omega) (by omega)).trans fZ2)) (i:=0) rfl
  ·rw [<- hZf];refine OwnS.lower (h5.own.same fun a ha=>?_) hMU;have h:=zaJ h5.own ha;have n1:a.block≠D2:=fun e=>by rw [<- e] at hfD;exact hfD (h5.inF a ha)
   exact (kf _ (by omega) n1).trans (k2 _ h.2.1 (by omega) (by omega))
  ·have h:=h7 x hx;have st:∀ {α:Type} {E:Enc α} {T c:Nat} {r:OA} {ll:List α},RowIn E T W.heap.size F Y r c ll->OwnS E T w.heap.size Zf r c ll:=fun {α E T c r ll} hh=>by
    refine OwnS.lower (hh.own.same fun a ha=>?_) hwW.size;have h:=zaJ hh.own ha;have n1:a.block≠D2:=fun e=>by rw [<- e] at hfD;exact hfD (hh.inF a ha)
    exact (kf _ (by omega) n1).trans (k2 _ h.2.1 (by omega) (by omega))
   rw [<- hZf];exact⟨st h.1,st h.2.1,st h.2.2.1,st h.2.2.2⟩
  ·have hwY:Bw w Y:=hwW.trans (h8.mono hMU);have b1:=(hwY.trans (zk gZ1 hwY.size (by omega))).trans (zk gZ2 (by rw [sZ1];exact hwY.size) (by omega));exact q8 (q8 b1 (by omega) _) (by omega) _
 ·rintro D ex pre F Y hD hfD hpre h;exact h.elim
end
def wrE (R:RunD) (i:Nat) (v:UInt8):Bool:=(List.range i).any fun j=>decide ((R.ev j).k=2)&&decide ((R.ev j).v=v)
def wrL (rs:List RunD) (v:UInt8):Bool:=rs.any fun R=>wrE R R.many v
theorem zln (rs:List RunD):zaD rs=z4.filter (wrL rs):=rfl
def wrC (f:UInt8->Bool):List Value:=seg 256 fun i => .bool (f (UInt8.ofNat i))
theorem zlp (f:UInt8->Bool) {i:Nat} (h:i<256):(wrC f)[i]?=some (.bool (f (UInt8.ofNat i))):=zcI _ h
theorem zqP (f:UInt8->Bool) (x:UInt8):(wrC f).set x.toNat (.bool true)=wrC fun v=>f v||decide (x=v):=by
 have hx:=x.toNat_lt;apply KM;intro j;by_cases hj:j<256
 ·rw [zlp _ hj];by_cases e:x.toNat=j
  ·subst e;rw [JD (by unfold wrC;rw [zG];exact hx),UInt8.ofNat_toNat,Un rfl,Bool.or_true]
  ·rw [JU e,zlp _ hj];have:x≠UInt8.ofNat j:=fun h=>e (by rw [h,KF];omega);rw [Uc this,Us]
 ·rw [JJ (by unfold wrC;rw [QK,zG];omega),JJ (by unfold wrC;rw [zG];omega)]
theorem zmt (f:UInt8->Bool):(wrC f).length=256:=zG _ _
theorem zoL (rs:List RunD) (R:RunD) (v:UInt8):wrL (rs++[R]) v=(wrL rs v||wrE R R.many v):=by
 unfold wrL;rw [List.any_append];simp
theorem zoN (R:RunD) (i:Nat) (v:UInt8):wrE R (i+1) v=(wrE R i v||(decide ((R.ev i).k=2)&&decide ((R.ev i).v=v))):=by
 unfold wrE;rw [QR,List.any_append];simp
theorem zl2 (p:UInt8->Bool) (x:UInt8):[x].filter p=if p x=true then [x] else []:=by
 rw [Qk,List.filter_nil]
theorem zqm {k:Nat} (h:k<256):∃ hl:k<z4.length,z4[k]=UInt8.ofNat k:=by
 have hl:z4.length=256:=by unfold z4;rw [QI,KS]
 refine⟨by rw [hl];exact h,?_⟩;simp [z4]
theorem zuu:List.replicate 256 (Value.bool false)=wrC fun _=>false:=by kernel_rfl
theorem zdF {a b:Nat}:decide ((a:Int)<(b:Int))=decide (a<b):=by rw [QB];omega
def jF (c:Cnd):Bool:=decide (c.thread=0)&&(decide (c.n=0)&&decide (c.val=0))
theorem zaK {threads locs d:Nat} (c:Cnd):zat threads locs (d+1) c=(if c.kind=0 then jF c&&decide (c.kids.length=0) else
  if c.kind=1 then decide (c.thread.toNat<threads)&&(decide (c.n.toNat<8)&&decide (c.kids.length=0)) else
  if c.kind=2 then decide (c.n.toNat<locs)&&(decide (c.thread=0)&&decide (c.kids.length=0)) else
  if c.kind=3\/c.kind=4 then jF c&&(decide (2<=c.kids.length)&&c.kids.all (zat threads locs d)) else
  if c.kind=5 then jF c&&(decide (c.kids.length=1)&&c.kids.all (zat threads locs d)) else false):=by
 obtain⟨k,t,n,v,kids⟩:=c;rfl
def zsI (c:Cnd):Prop:=(c.kind=3\/c.kind=4)/\jF c=true/\2<=c.kids.length\/c.kind=5/\jF c=true/\c.kids.length=1
theorem zmd {threads locs d:Nat} {c:Cnd} (h:zsI c):zat threads locs (d+1) c=c.kids.all (zat threads locs d):=by
 rw [zaK];rcases h with ⟨h1,h2,h3⟩ | ⟨h1,h2,h3⟩
 ·rw [Gh (by rcases h1 with h | h <;> rw [h] <;> decide),Gh (by rcases h1 with h | h <;> rw [h] <;> decide),Gh (by rcases h1 with h | h <;> rw [h] <;> decide),Gi h1,h2,Un h3];rfl
 ·rw [Gh (by rw [h1];decide),Gh (by rw [h1];decide),Gh (by rw [h1];decide),Gh (by rw [h1];decide),Gi h1,h2,Un h3];rfl
theorem zk0 {B threads locs:Nat} {w:Wd} (hB:B<=w.heap.size):∀ (d:Nat) (c:Cnd) (b o:Nat) (p:OA) (cap:Nat),d<=1000->b<B->zI w ⟨b,o,none⟩ (j5 c p cap)->KidsV B w p c.kids ->
  Calls PG 100 #[.pointer (some ⟨b,o,none⟩),i64 threads,i64 locs,i64 d] w fun e w'=>e = .returned (.bool (zat threads locs d c))/\w=w':=by
 intro d
 induction d with
 | zero =>
  intro c b o p cap _ hb hc hk;refine zF 141 [.pointer (some ⟨b,o,none⟩),i64 threads,i64 locs,i64 0] Tryz.func100 ?_;exact brT ⟨rfl,rfl⟩
 | succ d ih =>
  intro c b o p cap hd hb hc hk;refine qk 141 [.pointer (some ⟨b,o,none⟩),i64 threads,i64 locs,i64 (d+1:Nat)] (.s .p (.s .p (.c .p (.c .p .p)))) Tryz.func100 ?_;have hbl:b<w.heap.size:=nL hb hB;refine biE (fun h=>?_) fun h=>?_
  ·have h:((d+1:Nat):Int)=0:=dT h;omega
  clear h;refine⟨Unit,fun _=>⟨[(0,.pointer (some ⟨b,o,none⟩)),(1,i64 threads),(2,i64 locs),(3,i64 (d+1:Nat)),(9,.bool (jF c))],[]⟩,fun _ X=>w=X,?_,?_⟩
  ·have fin:∀ {v:Bool},v=jF c->some (Value.bool v)=some (.bool (jF c)):=fun h=>by rw [h]
   refine⟨_,zc hc (i:=1) rfl,biE (fun h1=>?_) fun h1=>?_⟩
   ·have h1:decide (c.thread=0)=true:=(u8d c.thread 0).symm.trans h1;refine⟨_,zc hc (i:=2) rfl,biE (fun h2=>?_) fun h2=>?_⟩
    ·have h2:decide (c.n=0)=true:=(u8d c.n 0).symm.trans h2;exact⟨_,zc hc (i:=3) rfl,(),⟨.cons rfl (.cons rfl (.cons rfl (.cons rfl (.cons (fin (by unfold jF;rw [h1,h2];exact u8d c.val 0)) .nil)))),rfl⟩,rfl⟩
    ·have h2:decide (c.n=0)=false:=(u8d c.n 0).symm.trans h2;exact⟨(),⟨.cons rfl (.cons rfl (.cons rfl (.cons rfl (.cons (fin (by unfold jF;rw [h1,h2];rfl)) .nil)))),rfl⟩,rfl⟩
   ·have h1:decide (c.thread=0)=false:=(u8d c.thread 0).symm.trans h1;exact brF ⟨(),⟨.cons rfl (.cons rfl (.cons rfl (.cons rfl (.cons (fin (by unfold jF;rw [h1];rfl)) .nil)))),rfl⟩,rfl⟩
  rintro _ _ rfl;refine⟨Unit,fun _=>⟨[(0,.pointer (some ⟨b,o,none⟩)),(1,i64 threads),(2,i64 locs),(3,i64 (d+1:Nat))],[]⟩,fun _ X=>zsI c/\w=X,?_,?_⟩
  ·have hkn:c.kids.length<=140737488351232:=by have:=hk.inv.1;omega
   refine⟨_,zc hc (i:=0) rfl,biE (fun h0=>?_) fun h0=>?_⟩
   ·have h0:c.kind=0:=dT ((u8d c.kind 0).symm.trans h0);have e:zat threads locs (d+1) c=(jF c&&decide (c.kids.length=0)):=(by rw [zaK,Gi h0]);rw [e];refine biE (fun h=>?_) fun h=>?_
    ·have h:jF c=true:=h;exact⟨_,zc hc (i:=4) rfl,rb (by rw [h,Ut];exact zb4),rfl⟩
    ·have h:jF c=false:=h;exact⟨rb (by rw [h];rfl),rfl⟩
   have h0:¬ c.kind=0:=dF ((u8d c.kind 0).symm.trans h0);refine biE (fun h1=>?_) fun h1=>?_
   ·have h1:c.kind=1:=dT ((u8d c.kind 1).symm.trans h1);have e:zat threads locs (d+1) c=(decide (c.thread.toNat<threads)&&(decide (c.n.toNat<8)&&decide (c.kids.length=0))):=(by rw [zaK,Gh h0,Gi h1]);rw [e];refine⟨_,zc hc (i:=1) rfl,_,qS _,biE (fun h=>?_) fun h=>?_⟩
    ·have h:decide (c.thread.toNat<threads)=true:=zdF.symm.trans h;refine⟨_,zc hc (i:=2) rfl,biE (fun h2=>?_) fun h2=>?_⟩
     ·have h2:decide (c.n.toNat<8)=true:=(zdF (b:=8)).symm.trans h2;exact⟨_,zc hc (i:=4) rfl,rb (by rw [h,h2];exact zb4),rfl⟩
     ·have h2:decide (c.n.toNat<8)=false:=(zdF (b:=8)).symm.trans h2;exact⟨rb (by rw [h,h2];rfl),rfl⟩
    ·have h:decide (c.thread.toNat<threads)=false:=zdF.symm.trans h;exact brF ⟨rb (by rw [h];rfl),rfl⟩
   have h1:¬ c.kind=1:=dF ((u8d c.kind 1).symm.trans h1);refine biE (fun h2=>?_) fun h2=>?_
   ·have h2:c.kind=2:=dT ((u8d c.kind 2).symm.trans h2);have e:zat threads locs (d+1) c=(decide (c.n.toNat<locs)&&(decide (c.thread=0)&&decide (c.kids.length=0))):=(by rw [zaK,Gh h0,Gh h1,Gi h2]);rw [e];refine⟨_,zc hc (i:=2) rfl,_,qS _,biE (fun h=>?_) fun h=>?_⟩
    ·have h:decide (c.n.toNat<locs)=true:=zdF.symm.trans h;refine⟨_,zc hc (i:=1) rfl,biE (fun h3=>?_) fun h3=>?_⟩
     ·have h3:decide (c.thread=0)=true:=(u8d c.thread 0).symm.trans h3;exact⟨_,zc hc (i:=4) rfl,rb (by rw [h,h3];exact zb4),rfl⟩
     ·have h3:decide (c.thread=0)=false:=(u8d c.thread 0).symm.trans h3;exact⟨rb (by rw [h,h3];rfl),rfl⟩
    ·have h:decide (c.n.toNat<locs)=false:=zdF.symm.trans h;exact brF ⟨rb (by rw [h];rfl),rfl⟩
   have h2:¬ c.kind=2:=dF ((u8d c.kind 2).symm.trans h2);have g34:∀ (hk34:c.kind=3\/c.kind=4),zat threads locs (d+1) c=(jF c&&(decide (2<=c.kids.length)&&c.kids.all (zat threads locs d))):=fun hk34=>by
    rw [zaK,Gh h0,Gh h1,Gh h2,Gi hk34]
   refine biE (fun h3=>?_) fun h3=>?_
   ·have h3':decide ((c.kind.toNat:Int)=3)=true:=h3;have h3:c.kind=3\/c.kind=4 := .inl (dT ((u8d c.kind 3).symm.trans h3));refine brE h3' (biE (fun h=>?_) fun h=>?_)
    ·have h:(!jF c)=true:=h;have h:jF c=false:=(by simpa using h);exact brT ⟨rb (by rw [g34 h3,h];rfl),rfl⟩
    ·have h:(!jF c)=false:=h;have h:jF c=true:=(by simpa using h);refine⟨_,zc hc (i:=4) rfl,biE (fun h4=>?_) fun h4=>?_⟩
     ·have h4:(c.kids.length:Int)<2:=dT h4;exact⟨rb (by rw [g34 h3,Uc (by omega)];simp),rfl⟩
     ·have h4:¬ (c.kids.length:Int)<2:=dF h4;exact⟨(),(cvE rfl rfl),.inl ⟨h3,h,by omega⟩,rfl⟩
   have h3:¬ c.kind=3:=dF ((u8d c.kind 3).symm.trans h3);refine biE (fun h4=>?_) fun h4=>?_
   ·have h3:c.kind=3\/c.kind=4 := .inr (dT ((u8d c.kind 4).symm.trans h4));refine biE (fun h=>?_) fun h=>?_
    ·have h:(!jF c)=true:=h;have h:jF c=false:=(by simpa using h);exact brT ⟨rb (by rw [g34 h3,h];rfl),rfl⟩
    ·have h:(!jF c)=false:=h;have h:jF c=true:=(by simpa using h);refine⟨_,zc hc (i:=4) rfl,biE (fun h4=>?_) fun h4=>?_⟩
     ·have h4:(c.kids.length:Int)<2:=dT h4;exact⟨rb (by rw [g34 h3,Uc (by omega)];simp),rfl⟩
     ·have h4:¬ (c.kids.length:Int)<2:=dF h4;exact⟨(),(cvE rfl rfl),.inl ⟨h3,h,by omega⟩,rfl⟩
   have h4:¬ c.kind=4:=dF ((u8d c.kind 4).symm.trans h4);have h34:¬ (c.kind=3\/c.kind=4):=fun h=>h.elim h3 h4;refine biE (fun h5=>?_) fun h5=>?_
   ·have h5:c.kind=5:=dT ((u8d c.kind 5).symm.trans h5);have e:zat threads locs (d+1) c=(jF c&&(decide (c.kids.length=1)&&c.kids.all (zat threads locs d))):=(by rw [zaK,Gh h0,Gh h1,Gh h2,Gh h34,Gi h5]);refine biE (fun h=>?_) fun h=>?_
    ·have h:(!jF c)=true:=h;have h:jF c=false:=(by simpa using h);exact brT ⟨rb (by rw [e,h];rfl),rfl⟩
    ·have h:(!jF c)=false:=h;have h:jF c=true:=(by simpa using h);refine⟨_,zc hc (i:=4) rfl,biE (fun h4=>?_) fun h4=>?_⟩
     ·have h4:(!decide ((c.kids.length:Int)=1))=true:=h4;have h4:¬ (c.kids.length:Int)=1:=(by simpa using h4);exact⟨rb (by rw [e,Uc (by omega)];simp),rfl⟩
     ·have h4:(!decide ((c.kids.length:Int)=1))=false:=h4;have h4:(c.kids.length:Int)=1:=(by simpa using h4);exact⟨(),(cvE rfl rfl),.inr ⟨h5,h,by omega⟩,rfl⟩
   have h5:¬ c.kind=5:=dF ((u8d c.kind 5).symm.trans h5);exact⟨rb (by rw [zaK,Gh h0,Gh h1,Gh h2,Gh h34,Gh h5]),rfl⟩
  rintro _ _ ⟨ha,rfl⟩;rw [zmd ha];refine⟨_,zc hc (i:=4) rfl,?_⟩;obtain⟨hn,b1,o1,hp,hks⟩:=hk.inv;refine⟨Nat,fun k=>⟨[(0,.pointer (some ⟨b,o,none⟩)),(1,i64 threads),(2,i64 locs),(3,i64 (d+1:Nat)),(124,i64 c.kids.length),(125,i64 (k:Nat))],[]⟩,fun k X=>k<=c.kids.length/\(∀ x∈c.kids.take k,zat threads locs d x=true)/\w=X,fun k=>c.kids.length-k,0,
   (cvE rfl rfl),⟨UU _,by simp,rfl⟩,?_⟩
  rintro k _ ⟨hk,hall,rfl⟩;dsimp only at hk hall ⊢;refine biE (fun hc2=>?_) fun hc2=>?_
  ·have hc2:(k:Int)<(c.kids.length:Int):=dT hc2;have hkl:k<c.kids.length:=by omega
   rcases hp with hp | rfl
   ·omega
   obtain⟨q,cq,hb1,hq,hkq⟩:=hks k hkl;refine⟨_,zc hc (i:=4) rfl,k,rfl,hkl,(d:Int),(ze (by omega)).trans (by omega),cmo (ih c.kids[k] b1 (o1+k*5) q cq (by omega) hb1 hq hkq) ?_⟩;rintro e _ ⟨rfl,rfl⟩;refine biE (fun h=>?_) fun h=>?_
   ·have h:(!zat threads locs d c.kids[k])=true:=h;refine⟨rb ?_,rfl⟩;symm;rw [KJ];exact⟨c.kids[k],gM _,by simpa using h⟩
   ·have h:(!zat threads locs d c.kids[k])=false:=h;refine⟨_,(ze (by omega)).trans rfl,k+1,(cvE rfl rfl),⟨hkl,?_,rfl⟩,zdc (by omega)⟩;rw [tsg hkl];intro x hx;rcases QM.1 hx with hx | hx
    ·exact hall x hx
    ·simp only [Ky] at hx;rw [hx];simpa using h
  ·have hc2:¬ (k:Int)<(c.kids.length:Int):=dF hc2;obtain rfl:k=c.kids.length:=by omega
   rw [Qt] at hall;exact⟨rb (Qg.2 hall).symm,rfl⟩
theorem ztV {B threads locs cap:Nat} {p:OA} {c:Cnd} {w:Wd} (hB:B<=w.heap.size) (hk:KidsV B w p c.kids) :
  CB 70 #[.agg (j5 c p cap).toArray,i64 threads,i64 locs] w (.bool (zat threads locs 20 c)):=by
 refine zF 10 [.agg (j5 c p cap).toArray,i64 threads,i64 locs] Tryz.func70 ?_;have hb:Bw w (w.alloc (.cells (j5 c p cap).toArray 27)):=zba w _;have hn:=zy w (.cells (j5 c p cap).toArray 27);refine cmo (zk0 (B:=w.heap.size+1) (by rw [wz];omega) 20 c w.heap.size 0 p cap (by omega) (by omega) (za hn) ((hk.kept (hb.mono hB)).wider (by omega))) ?_;rintro e _ ⟨rfl,rfl⟩;exact⟨rfl,hb⟩
theorem zkz {g:Nat} {p:Prg} {p1 p2 p3 p4:OA} {c1 c2 c3 c4 B:Nat} {w:Wd} (hc:zI w ⟨g,0,none⟩ (jp p p1 c1 p2 c2 p3 c3 p4 c4)) (hg:g<w.heap.size) (h1:RowB zkv B w p1 p.locs) (hB:B<=w.heap.size) (hcap:p.locs.length<=c1) (hl:PrgLen p) :
  CB 62 #[At0 g] w (.bool (zd0 p)):=by
 refine qk 56 [At0 g] (.s .p (.c .p .p)) Tryz.func62 ?_;have hbd:Bw w w.drew:=(UW _ w).drew;have hcd:zI w.drew ⟨g,0,none⟩ (jp p p1 c1 p2 c2 p3 c3 p4 c4):=zr hbd hc;have h1d:SlR zkv w.drew p1 p.locs:=(h1.below (hbd.mono hB)).slr (UI hB hbd.size);have hln:=hl.locs;refine⟨Unit,fun _=>⟨[(0,At0 g)],[]⟩,fun _ X=>(1<=p.locs.length/\p.locs.length<=6/\p.init.length=p.locs.length)/\X=w.drew,?_,?_⟩
 ·refine DrawE.ord [] [0,1,2,3,4,5,6,7,8,9,10,11,12,13,14,15,16,17,18,19,20,21,22,23,24,25,26] (by kernel_rfl) ⟨_,zc hcd (i:=1) rfl,biE (fun ha=>?_) fun ha=>?_⟩
  ·have ha:(p.locs.length:Int)<1:=dT ha;exact brT (brT ⟨rb (by unfold zd0;rw [Uc (by omega)];rfl),hbd⟩)
  ·have ha:¬ (p.locs.length:Int)<1:=dF ha;refine⟨_,zc hcd (i:=1) rfl,biE (fun hd=>?_) fun hd=>?_⟩
   ·have hd:(6:Int)<(p.locs.length:Int):=dT hd;exact brT ⟨rb (by unfold zd0;rw [Uc (p:=p.locs.length<=6) (by omega)];simp),hbd⟩
   ·have hd:¬ (6:Int)<(p.locs.length:Int):=dF hd;refine⟨_,zc hcd (i:=2) rfl,_,zc hcd (i:=1) rfl,biE (fun he=>?_) fun he=>?_⟩
    ·have he:(!decide ((p.init.length:Int)=(p.locs.length:Int)))=true:=he;have he:¬ (p.init.length:Int)=(p.locs.length:Int):=(by simpa using he);exact⟨rb (by unfold zd0;rw [Uc (p:=p.init.length=p.locs.length) (by omega)];simp),hbd⟩
    ·have he:(!decide ((p.init.length:Int)=(p.locs.length:Int)))=false:=he;have he:(p.init.length:Int)=(p.locs.length:Int):=(by simpa using he);exact⟨(),(cvE rfl rfl),⟨by omega,by omega,by omega⟩,rfl⟩
 rintro _ _ ⟨⟨l1,l6,li⟩,rfl⟩;have hdef:zd0 p=zec [] p.locs:=by unfold zd0;rw [Un l1,Un l6,Un li];rfl
 rw [hdef];refine⟨_,zc hcd (i:=1) rfl,?_⟩;refine⟨Nat,fun k=>⟨[(0,At0 g),(35,.slice p1 p.locs.length c1),(36,i64 p.locs.length),(37,i64 (k:Nat))],[]⟩,fun k X=>k<=p.locs.length/\zec (p.locs.take k) (p.locs.drop k)=zec [] p.locs/\X=w.drew,fun k=>p.locs.length-k,0,
  (cvE rfl rfl),⟨UU _,rfl,rfl⟩,?_⟩
 rintro k _ ⟨hk,hna,rfl⟩;dsimp only at hk hna ⊢;refine biE (fun hc2=>?_) fun hc2=>?_
 ·have hc2:(k:Int)<(p.locs.length:Int):=dT hc2;have hkl:k<p.locs.length:=by omega
  obtain⟨b,o,rfl,hb,hat⟩:=h1d.at hkl;have hbk:Bw w w.drew:=hbd;refine⟨k,rfl,hkl,_,zc (hat k hkl) (i:=0) rfl,?_⟩;have hs:p.locs[k].length<=140737488351232:=hl.loc _ (gM _);have hstep:zec [] p.locs=(zeI p.locs[k]&&(!((p.locs.take k).any fun q=>decide (q=p.locs[k]))&&zec (p.locs.take (k+1)) (p.locs.drop (k+1)))):=by
   rw [<- hna,Jp hkl,tsg hkl];rfl
  refine cmo (ztO p.locs[k] hs _) ?_;rintro e _ ⟨rfl,rfl⟩;refine biE (fun h=>?_) fun h=>?_
  ·have h:(!zeI p.locs[k])=true:=h;have h:zeI p.locs[k]=false:=by simpa using h
   exact brT ⟨rb (by rw [hstep,h];rfl),hbd⟩
  ·have h:(!zeI p.locs[k])=false:=h;have h:zeI p.locs[k]=true:=by simpa using h
   refine⟨_,zc hcd (i:=1) rfl,k,rfl,by omega,?_⟩;have hsub:SlR zkv w.drew (ji (some ⟨b,o,none⟩) c1 0 1) (p.locs.take k):=SlR.sub h1d (lo:=0) (hi:=k) (UU _) (by omega) hcap;have htl:(p.locs.take k).length=k:=by rw [Qr];omega
   have hcn:=zmo (ji (some ⟨b,o,none⟩) c1 0 1) (c1-0) (p.locs.take k) p.locs[k] w.drew hsub (by omega);rw [htl] at hcn;refine cmo hcn ?_;rintro e _ ⟨rfl,rfl⟩;refine biE (fun h5=>?_) fun h5=>?_
   ·have h5:((p.locs.take k).any fun q=>decide (q=p.locs[k]))=true:=h5;exact⟨rb (by rw [hstep,h5];simp),hbd⟩
   ·have h5:((p.locs.take k).any fun q=>decide (q=p.locs[k]))=false:=h5;exact⟨_,(ze (by omega)).trans rfl,k+1,(cvE rfl rfl),⟨hkl,by rw [hstep,h,h5];rfl,rfl⟩,zdc (by omega)⟩
 ·have hc2:¬ (k:Int)<(p.locs.length:Int):=dF hc2;obtain rfl:k=p.locs.length:=by omega
  rw [Qj] at hna;exact⟨rb hna,hbd⟩
structure DmV (B:Nat) (X:Wd) (g bx:Nat) (p:Prg):Prop where
 hB:B<=X.heap.size
 hg:g<X.heap.size
 len:PrgLen p
 h:∃ p1 c1 p2 c2 p3 c3 p4 c4,zI X ⟨g,0,none⟩ (jp p p1 c1 p2 c2 p3 c3 p4 c4)/\RowB zkv B X p1 p.locs/\RowB zR B X p2 p.init/\ThrsV B X p3 p.threads/\KidsV B X p4 p.cond.kids/\p.locs.length<=c1
 b:X.heap[bx]?=some (.cells #[At0 g] 85 (0,0))
 G:GlobC X
theorem DmV.below {B:Nat} {X Y:Wd} {g bx:Nat} {p:Prg} (h:DmV B X g bx p) (hb:Bw X Y):DmV B Y g bx p:=by
 obtain⟨p1,c1,p2,c2,p3,c3,p4,c4,h0,h1,h2,h3,h4,h5⟩:=h.h;have hb':=hb.mono h.hB;exact⟨UI h.hB hb.size,nL h.hg hb.size,h.len,⟨p1,c1,p2,c2,p3,c3,p4,c4,zr hb h0,h1.below hb',h2.below hb',h3.below hb',h4.kept hb',h5⟩,zb hb h.b,h.G.below hb⟩
def zlG (sel:Bool) (bx:Nat):Value:=match sel with
 | false => .func (.func 64) #[] #[]
 | true => .func (.func 66) #[] #[.pointer (some ⟨bx,0,none⟩)]
def zcb (sel:Bool) (p:Prg) (l:List InsD):Bool:=match sel with
 | false=>decide (l.length<=12)
 | true=>qy l p.locs.length
section
variable {B g bx:Nat} {p:Prg} {w:Wd}
theorem zqU (q:OA) (cap:Nat) (l:List InsD):Calls PG 64 #[.slice q l.length cap] w fun e w'=>e = .returned (.bool (decide (l.length<=12)))/\w=w':=by
 refine zF 6 [.slice q l.length cap] Tryz.func64 ?_;refine⟨rb ?_,rfl⟩;rw [QB];show ((l.length:Int)<=12)↔_;omega
theorem zoW (h:DmV B w g bx p) {q:OA} {cap:Nat} {l:List InsD} (hl:SlR zA w q l) (hn:l.length<=140737488351232) :
  CB 66 #[.slice q l.length cap,At0 bx] w (.bool (qy l p.locs.length)):=by
 refine zF 11 [.slice q l.length cap,At0 bx] Tryz.func66 ?_;obtain⟨p1,c1,p2,c2,p3,c3,p4,c4,h0,h1,h2,h3,h4,h5⟩:=h.h;refine⟨_,zc (za h.b) (i:=0) rfl,_,zc h0 (i:=1) rfl,cmo (zlg hl h.G hn) ?_⟩;rintro e V ⟨rfl,hb⟩;exact⟨rfl,hb⟩
theorem zne (sel:Bool) (h:DmV B w g bx p):CB 58 #[zlG sel bx,At0 bx] w (.bool (p.threads.all (zcb sel p))):=by
 refine zF 20 [zlG sel bx,At0 bx] Tryz.func58 ?_;obtain⟨p1,c1,p2,c2,p3,c3,p4,c4,h0,h1,h2,h3,h4,h5⟩:=h.h;obtain⟨xs,hxs,hr,hx⟩:=h3;have hlen:p.threads.length=xs.length:=by rw [<- hxs,QI]
 have hln:=h.len.threads;refine⟨_,zc (za h.b) (i:=0) rfl,_,zc h0 (i:=3) rfl,?_⟩;refine⟨Nat,fun k=>⟨[(0,zlG sel bx),(1,At0 bx),(9,.slice p3 p.threads.length c3),(10,i64 p.threads.length),(11,i64 (k:Nat))],[]⟩,fun k X=>k<=p.threads.length/\(∀ l∈p.threads.take k,zcb sel p l=true)/\Bw w X,fun k=>p.threads.length-k,0,
  (cvE rfl rfl),⟨UU _,by simp,UW _ _⟩,?_⟩
 rintro k X ⟨hk,hall,hbX⟩;dsimp only at hk hall ⊢;have hX:=h.below hbX;refine biE (fun hc=>?_) fun hc=>?_
 ·have hc:(k:Int)<(p.threads.length:Int):=dT hc;have hkl:k<p.threads.length:=by omega
  have hkx:k<xs.length:=by omega
  have e1:p.threads[k]=xs[k].1:=by simp [<- hxs]
  obtain⟨b,o,hp3,hat⟩:=hr.get;rcases hp3 with hp3 | rfl
  ·omega
  refine⟨k,rfl,hkl,?_⟩;obtain⟨hb1,ha1⟩:=hat k hkx;refine⟨_,zc (zS (hbX.mono h.hB) hb1 ha1) (i:=0) rfl,?_⟩;have zc3:SlR zA X xs[k].2.1 xs[k].1:=((hx _ (gM hkx)).below (hbX.mono h.hB)).slr hX.hB;have hln1:xs[k].1.length<=140737488351232:=by rw [<- e1];exact h.len.thread _ (gM _)
  have hfin:zcb sel p xs[k].1=false->p.threads.all (zcb sel p)=false:=fun hf=>by
   rw [KJ];exact⟨p.threads[k],gM _,by rw [e1,hf];simp⟩
  have hgo:zcb sel p xs[k].1=true->∀ l∈p.threads.take (k+1),zcb sel p l=true:=fun ht=>by
   rw [tsg hkl];intro x hx;rcases QM.1 hx with hx | hx
   ·exact hall x hx
   ·simp only [Ky] at hx;rw [hx,e1];exact ht
  cases sel with
  | false =>
   refine cmo (zqU xs[k].2.1 xs[k].2.2 xs[k].1) ?_;rintro e _ ⟨rfl,rfl⟩;refine biE (fun hb=>?_) fun hb=>?_
   ·have hb:(!zcb false p xs[k].1)=true:=hb;exact⟨rb (hfin (by simpa using hb)).symm,hbX⟩
   ·have hb:(!zcb false p xs[k].1)=false:=hb;exact⟨_,(ze (by omega)).trans rfl,k+1,(cvE rfl rfl),⟨hkl,hgo (by simpa using hb),hbX⟩,zdc (by omega)⟩
  | true =>
   refine cmo (zoW hX (cap:=xs[k].2.2) zc3 hln1) ?_;rintro e Y ⟨rfl,hbY⟩;refine biE (fun hb=>?_) fun hb=>?_
   ·have hb:(!zcb true p xs[k].1)=true:=hb;exact⟨rb (hfin (by simpa using hb)).symm,(zst hbX hbY)⟩
   ·have hb:(!zcb true p xs[k].1)=false:=hb;exact⟨_,(ze (by omega)).trans rfl,k+1,(cvE rfl rfl),⟨hkl,hgo (by simpa using hb),(zst hbX hbY)⟩,zdc (by omega)⟩
 ·have hc:¬ (k:Int)<(p.threads.length:Int):=dF hc;obtain rfl:k=p.threads.length:=by omega
  rw [Qt] at hall;exact⟨rb (Qg.2 hall).symm,hbX⟩
theorem ztB (h:DmV B w g bx p):CB 59 #[At0 bx] w (.bool (zdI p.name)):=by
 refine zF 7 [At0 bx] Tryz.func59 ?_;obtain⟨p1,c1,p2,c2,p3,c3,p4,c4,h0,h1,h2,h3,h4,h5⟩:=h.h;refine⟨_,zc (za h.b) (i:=0) rfl,_,zc h0 (i:=0) rfl,cmo (zpK p.name h.len.name w) ?_⟩;rintro e V ⟨rfl,hb⟩;exact⟨rfl,hb⟩
theorem ztA (h:DmV B w g bx p):CB 61 #[At0 bx] w (.bool (zd0 p)):=by
 refine zF 4 [At0 bx] Tryz.func61 ?_;obtain⟨p1,c1,p2,c2,p3,c3,p4,c4,h0,h1,h2,h3,h4,h5⟩:=h.h;refine⟨_,zc (za h.b) (i:=0) rfl,cmo (zkz h0 h.hg h1 h.hB h5 h.len) ?_⟩;rintro e V ⟨rfl,hb⟩;exact⟨rfl,hb⟩
def evV (bx:Nat):Value := .func (.func 58) #[] #[At0 bx]
theorem ztz (h:DmV B w g bx p) {ev:Nat} (hev:w.heap[ev]?=some (.cells #[evV bx] 121 (0,0))):CB 63 #[At0 bx,At0 ev] w (.bool (decide (1<=p.threads.length)&&(decide (p.threads.length<=4)&&p.threads.all fun l=>decide (l.length<=12)))):=by
 refine zF 21 [At0 bx,At0 ev] Tryz.func63 ?_;obtain⟨p1,c1,p2,c2,p3,c3,p4,c4,h0,h1,h2,h3,h4,h5⟩:=h.h;refine⟨_,zc (za h.b) (i:=0) rfl,_,zc h0 (i:=3) rfl,biE (fun ha=>?_) fun ha=>?_⟩
 ·have ha:(1:Int)<=(p.threads.length:Int):=dT ha;refine⟨_,zc (za h.b) (i:=0) rfl,_,zc h0 (i:=3) rfl,biE (fun hb=>?_) fun hb=>?_⟩
  ·have hb:(p.threads.length:Int)<=4:=dT hb;refine⟨_,zc (za hev) (i:=0) rfl,cmo (zne false h) ?_⟩;rintro e V ⟨rfl,hbV⟩;refine⟨rb ?_,hbV⟩;rw [Un (by omega),Un (by omega),Ut,Ut];rfl
  ·have hb:¬ (p.threads.length:Int)<=4:=dF hb;exact⟨rb (by rw [Uc (p:=p.threads.length<=4) (by omega)];simp),UW _ _⟩
 ·have ha:¬ (1:Int)<=(p.threads.length:Int):=dF ha;exact brF ⟨rb (by rw [Uc (p:=1<=p.threads.length) (by omega)];rfl),UW _ _⟩
theorem zty (h:DmV B w g bx p) {ev:Nat} (hev:w.heap[ev]?=some (.cells #[evV bx] 121 (0,0))):CB 65 #[At0 ev,At0 bx] w (.bool (p.threads.all fun l=>qy l p.locs.length)):=by
 refine zF 6 [At0 ev,At0 bx] Tryz.func65 ?_;refine⟨_,zc (za hev) (i:=0) rfl,cmo (zne true h) ?_⟩;rintro e V ⟨rfl,hbV⟩;exact⟨rfl,hbV⟩
theorem ztx (h:DmV B w g bx p):CB 68 #[At0 bx] w (.bool (decide (p.ask=1)||(decide (p.ask=2)||decide (p.ask=3)))):=by
 refine zF 21 [At0 bx] Tryz.func68 ?_;obtain⟨p1,c1,p2,c2,p3,c3,p4,c4,h0,h1,h2,h3,h4,h5⟩:=h.h;refine⟨_,zc (za h.b) (i:=0) rfl,_,zc h0 (i:=4) rfl,biE (fun ha=>?_) fun ha=>?_⟩
 ·have ha:decide (p.ask=1)=true:=(u8d p.ask 1).symm.trans ha;exact brT ⟨rb (by rw [ha];rfl),UW _ _⟩
 ·have ha:decide (p.ask=1)=false:=(u8d p.ask 1).symm.trans ha;refine⟨_,zc (za h.b) (i:=0) rfl,_,zc h0 (i:=4) rfl,biE (fun hb=>?_) fun hb=>?_⟩
  ·have hb:decide (p.ask=2)=true:=(u8d p.ask 2).symm.trans hb;exact⟨rb (by rw [ha,hb];rfl),UW _ _⟩
  ·have hb:decide (p.ask=2)=false:=(u8d p.ask 2).symm.trans hb;exact⟨_,zc (za h.b) (i:=0) rfl,_,zc h0 (i:=4) rfl,rb (by rw [ha,hb];exact u8d p.ask 3),UW _ _⟩
theorem ztw (h:DmV B w g bx p):CB 69 #[At0 bx] w (.bool (zat p.threads.length p.locs.length 20 p.cond)):=by
 refine zF 17 [At0 bx] Tryz.func69 ?_;have hbd:Bw w w.drew:=(UW _ w).drew;have hd:=h.below hbd;obtain⟨p1,c1,p2,c2,p3,c3,p4,c4,h0,h1,h2,h3,h4,h5⟩:=hd.h;refine DrawE.ord [] [0,1,2,3,4,5,6,7,8,9,10,11,12,13,14,15] (by kernel_rfl) ⟨_,zc (za hd.b) (i:=0) rfl,j5 p.cond p4 c4,rfl,zP (n:=5) (m:=5) h0,hd.hg,_,zc (za hd.b) (i:=0) rfl,_,zc h0 (i:=3) rfl,_,zc (za hd.b) (i:=0) rfl,_,zc h0 (i:=1) rfl,cmo (ztV hd.hB h4) ?_⟩;rintro e V ⟨rfl,hbV⟩;exact⟨hbV,rfl,hbd.trans hbV⟩
def ztv (bx ev:Nat):List Value:=[i64 70,.func (.func 59) #[] #[At0 bx],i64 71,.func (.func 61) #[] #[At0 bx],
 i64 72,.func (.func 63) #[] #[At0 bx,At0 ev],i64 73,.func (.func 65) #[] #[At0 ev,At0 bx],
 i64 75,.func (.func 68) #[] #[At0 bx],i64 74,.func (.func 69) #[] #[At0 bx]]
theorem zop {g:Nat} {w:Wd}:Calls PG 28 #[At0 g] w fun e w'=>e = .returned (.slice (some ⟨w.heap.size+2,0,none⟩) 6 6) /\
  w'.heap[w.heap.size]?=some (.cells #[At0 g] 85 (0,0))/\w'.heap[w.heap.size+1]?=some (.cells #[evV w.heap.size] 121 (0,0)) /\
  w'.heap[w.heap.size+2]?=some (.cells (ztv w.heap.size (w.heap.size+1)).toArray 87 (0,0))/\w'.heap.size=w.heap.size+3/\Bw w w':=by
 refine zF 18 [At0 g] Tryz.func28 ?_;have hs:=wz w (.cells (At0 g).cells 85);refine zo (X:=w.alloc (.cells (At0 g).cells 85)) (v:=evV w.heap.size) zuN rfl rfl rfl fun V hbV fV sV=>?_;generalize hev:(w.alloc (.cells (At0 g).cells 85)).heap.size=ev at *;refine⟨[i64 70,.func (.func 59) #[] #[.pointer (some ⟨w.heap.size,0,none⟩)]],rfl,[i64 71,.func (.func 61) #[] #[.pointer (some ⟨w.heap.size,0,none⟩)]],rfl,[i64 72,.func (.func 63) #[] #[.pointer (some ⟨w.heap.size,0,none⟩),At0 ev]],rfl,[i64 73,.func (.func 65) #[] #[At0 ev,.pointer (some ⟨w.heap.size,0,none⟩)]],rfl,[i64 75,.func (.func 68) #[] #[.pointer (some ⟨w.heap.size,0,none⟩)]],rfl,[i64 74,.func (.func 69) #[] #[.pointer (some ⟨w.heap.size,0,none⟩)]],rfl,⟨by decide,by decide,rfl⟩,ztv w.heap.size ev,rfl,?_⟩;subst hs;refine⟨?_,?_,?_,?_,?_,?_⟩
 ·rw [sV];rfl
 ·exact qJ _ (zb (show Below _ _ _ from hev▸hbV) (zy w _))
 ·exact qJ _ fV
 ·rw [show w.heap.size+2=V.heap.size from sV.symm];exact zy _ _
 ·rw [wz,sV]
 ·exact (((zba w _)).trans (hbV.mono (by omega))).alloc (by omega) _
end
def okL (p:Prg):List Bool:=[zdI p.name,zd0 p,decide (1<=p.threads.length)&&(decide (p.threads.length<=4)&&p.threads.all fun l=>decide (l.length<=12)),p.threads.all (fun l=>qy l p.locs.length),
 decide (p.ask=1)||(decide (p.ask=2)||decide (p.ask=3)),zat p.threads.length p.locs.length 20 p.cond]
theorem zmZ {p:Prg}:zdf p=(okL p).all id:=by
 unfold zdf okL;simp only [Uv,List.all_nil,Bool.and_true,id]
theorem zjD {B:Nat} {p:Prg} {vs:List Value} {w:Wd} (hB:B<=w.heap.size) (hp:PrgV B w vs p) (hG:GlobC w) :
  Calls PG 11 #[.agg vs.toArray] w fun e w'=>∃ n:Int,e = .returned (i64 n)/\(n=0↔zdf p=true)/\Bw w w':=by
 obtain⟨hl,p1,c1,p2,c2,p3,c3,p4,c4,rfl,h1,h2,h3,h4,h5⟩:=hp;refine zF 18 [.agg (jp p p1 c1 p2 c2 p3 c3 p4 c4).toArray] Tryz.func11 ?_;obtain⟨L,hL⟩:=nm (w.heap.size);have hn:=zy w (.cells (Value.agg (jp p p1 c1 p2 c2 p3 c3 p4 c4).toArray).cells 29);have hs:=wz w (.cells (Value.agg (jp p p1 c1 p2 c2 p3 c3 p4 c4).toArray).cells 29);have hb:Bw w (w.alloc (.cells (Value.agg (jp p p1 c1 p2 c2 p3 c3 p4 c4).toArray).cells 29)):=zba w _;refine cmo zop ?_;rintro e V ⟨rfl,hbx,hev,hsl,hsz,hbV⟩;have hbw:Bw w V:=zst hb hbV;have p1':some (Value.slice (some ⟨(w.alloc (.cells (Value.agg (jp p p1 c1 p2 c2 p3 c3 p4 c4).toArray).cells 29)).heap.size+2,0,none⟩) 6 6)=some (Value.slice (some ⟨L+3,0,none⟩) 6 6):=by rw [hs,hL]
 have hD:DmV B V L (L+1) p:=by
  have hbB:=hbw.mono hB;rw [hs,<- hL] at hbx;refine⟨UI hB hbw.size,by omega,hl,⟨p1,c1,p2,c2,p3,c3,p4,c4,za (zb hbV (hL▸hn)),h1.below hbB,h2.below hbB,h3.below hbB,h4.kept hbB,h5⟩,hbx,hG.below hbw⟩
 rw [hs,<- hL] at hev hsl;clear hn hs hb hbx hbV hsz;refine⟨Nat,fun j=>⟨[(5,.slice (some ⟨L+3,0,none⟩) 6 6),(6,i64 6),(7,i64 (j:Nat))],[]⟩,
  fun j X=>j<=6/\(∀ i,i<j->(okL p)[i]?=some true)/\DmV B X L (L+1) p/\X.heap[L+2]?=some (.cells #[evV (L+1)] 121 (0,0))/\X.heap[L+3]?=some (.cells (ztv (L+1) (L+2)).toArray 87 (0,0))/\Bw w X,fun j=>6-j,0,
  ⟨.cons p1' (.cons rfl (.cons rfl .nil)),rfl⟩,⟨UU _,fun i hi=>by omega,hD,hev,hsl,hbw⟩,?_⟩
 clear hD hev hsl hbw p1';rintro j X ⟨hj,hpre,hD,hev,hsl,hbw⟩;dsimp only at hj hpre ⊢;refine biE (fun hc=>?_) fun hc=>?_
 ·have hc:(j:Int)<6:=dT hc;have hno:∀ {i:Nat},(okL p)[i]?=some false->zdf p=false:=fun h=>by rw [zmZ];exact zqx h
  have hcs:j=0\/j=1\/j=2\/j=3\/j=4\/j=5:=by omega
  rcases hcs with rfl | rfl | rfl | rfl | rfl | rfl
  ·refine⟨0,rfl,by decide,?_⟩;refine⟨[i64 70,.func (.func 59) #[] #[At0 (L+1)]],rfl,zP (n:=0) (m:=2) (za hsl),hlt hsl,zo (X:=X) (v := .agg [i64 70,.func (.func 59) #[] #[At0 (L+1)]].toArray) k87 rfl rfl rfl fun Y hbY fY sY=>?_⟩;have hY:=hD.below hbY;have hevY:=zb hbY hev;have hslY:=zb hbY hsl;refine⟨_,zc (za fY) (i:=1) rfl,cmo (ztB hY) ?_⟩;rintro e W ⟨rfl,hbW⟩;have hbX:Bw w W:=((zst hbw hbY)).trans (hbW.mono (UI hbw.size hbY.size));refine biE (fun hb=>?_) fun hb=>?_
   ·have hb:(!((okL p)[0]'(by show 0<6;decide)))=true:=hb;have hb:(okL p)[0]?=some false:=(by rw [gE (by show 0<6;decide)];exact Gd some (by rw [<- UC ((okL p)[0]'(by show 0<6;decide)),hb];rfl));exact⟨_,zc (za (zb hbW fY)) (i:=0) rfl,70,rfl,⟨fun h=>Gj h (by decide),fun h=>by rw [hno hb] at h;cases h⟩,hbX⟩
   ·have hb:(!((okL p)[0]'(by show 0<6;decide)))=false:=hb;have hb:(okL p)[0]?=some true:=(by rw [gE (by show 0<6;decide)];exact Gd some (by rw [<- UC ((okL p)[0]'(by show 0<6;decide)),hb];rfl));refine⟨_,(ze (by omega)).trans rfl,1,(cvE rfl rfl),⟨by omega,fun i hi=>?_,hY.below hbW,zb hbW hevY,zb hbW hslY,hbX⟩,by decide⟩;by_cases hik:i=0
    ·rw [hik];exact hb
    ·exact hpre i (by omega)
  ·refine⟨1,rfl,by decide,?_⟩;refine⟨[i64 71,.func (.func 61) #[] #[At0 (L+1)]],rfl,zP (n:=2) (m:=2) (za hsl),hlt hsl,zo (X:=X) (v := .agg [i64 71,.func (.func 61) #[] #[At0 (L+1)]].toArray) k87 rfl rfl rfl fun Y hbY fY sY=>?_⟩;have hY:=hD.below hbY;have hevY:=zb hbY hev;have hslY:=zb hbY hsl;refine⟨_,zc (za fY) (i:=1) rfl,cmo (ztA hY) ?_⟩;rintro e W ⟨rfl,hbW⟩;have hbX:Bw w W:=((zst hbw hbY)).trans (hbW.mono (UI hbw.size hbY.size));refine biE (fun hb=>?_) fun hb=>?_
   ·have hb:(!((okL p)[1]'(by show 1<6;decide)))=true:=hb;have hb:(okL p)[1]?=some false:=(by rw [gE (by show 1<6;decide)];exact Gd some (by rw [<- UC ((okL p)[1]'(by show 1<6;decide)),hb];rfl));exact⟨_,zc (za (zb hbW fY)) (i:=0) rfl,71,rfl,⟨fun h=>Gj h (by decide),fun h=>by rw [hno hb] at h;cases h⟩,hbX⟩
   ·have hb:(!((okL p)[1]'(by show 1<6;decide)))=false:=hb;have hb:(okL p)[1]?=some true:=(by rw [gE (by show 1<6;decide)];exact Gd some (by rw [<- UC ((okL p)[1]'(by show 1<6;decide)),hb];rfl));refine⟨_,(ze (by omega)).trans rfl,2,(cvE rfl rfl),⟨by omega,fun i hi=>?_,hY.below hbW,zb hbW hevY,zb hbW hslY,hbX⟩,by decide⟩;by_cases hik:i=1
    ·rw [hik];exact hb
    ·exact hpre i (by omega)
  ·refine⟨2,rfl,by decide,?_⟩;refine⟨[i64 72,.func (.func 63) #[] #[At0 (L+1),At0 (L+2)]],rfl,zP (n:=4) (m:=2) (za hsl),hlt hsl,zo (X:=X) (v := .agg [i64 72,.func (.func 63) #[] #[At0 (L+1),At0 (L+2)]].toArray) k87 rfl rfl rfl fun Y hbY fY sY=>?_⟩;have hY:=hD.below hbY;have hevY:=zb hbY hev;have hslY:=zb hbY hsl;refine⟨_,zc (za fY) (i:=1) rfl,cmo (ztz hY hevY) ?_⟩;rintro e W ⟨rfl,hbW⟩;have hbX:Bw w W:=((zst hbw hbY)).trans (hbW.mono (UI hbw.size hbY.size));refine biE (fun hb=>?_) fun hb=>?_
   ·have hb:(!((okL p)[2]'(by show 2<6;decide)))=true:=hb;have hb:(okL p)[2]?=some false:=(by rw [gE (by show 2<6;decide)];exact Gd some (by rw [<- UC ((okL p)[2]'(by show 2<6;decide)),hb];rfl));exact⟨_,zc (za (zb hbW fY)) (i:=0) rfl,72,rfl,⟨fun h=>Gj h (by decide),fun h=>by rw [hno hb] at h;cases h⟩,hbX⟩
   ·have hb:(!((okL p)[2]'(by show 2<6;decide)))=false:=hb;have hb:(okL p)[2]?=some true:=(by rw [gE (by show 2<6;decide)];exact Gd some (by rw [<- UC ((okL p)[2]'(by show 2<6;decide)),hb];rfl));refine⟨_,(ze (by omega)).trans rfl,3,(cvE rfl rfl),⟨by omega,fun i hi=>?_,hY.below hbW,zb hbW hevY,zb hbW hslY,hbX⟩,by decide⟩;by_cases hik:i=2
    ·rw [hik];exact hb
    ·exact hpre i (by omega)
  ·refine⟨3,rfl,by decide,?_⟩;refine⟨[i64 73,.func (.func 65) #[] #[At0 (L+2),At0 (L+1)]],rfl,zP (n:=6) (m:=2) (za hsl),hlt hsl,zo (X:=X) (v := .agg [i64 73,.func (.func 65) #[] #[At0 (L+2),At0 (L+1)]].toArray) k87 rfl rfl rfl fun Y hbY fY sY=>?_⟩;have hY:=hD.below hbY;have hevY:=zb hbY hev;have hslY:=zb hbY hsl;refine⟨_,zc (za fY) (i:=1) rfl,cmo (zty hY hevY) ?_⟩;rintro e W ⟨rfl,hbW⟩;have hbX:Bw w W:=((zst hbw hbY)).trans (hbW.mono (UI hbw.size hbY.size));refine biE (fun hb=>?_) fun hb=>?_
   ·have hb:(!((okL p)[3]'(by show 3<6;decide)))=true:=hb;have hb:(okL p)[3]?=some false:=(by rw [gE (by show 3<6;decide)];exact Gd some (by rw [<- UC ((okL p)[3]'(by show 3<6;decide)),hb];rfl));exact⟨_,zc (za (zb hbW fY)) (i:=0) rfl,73,rfl,⟨fun h=>Gj h (by decide),fun h=>by rw [hno hb] at h;cases h⟩,hbX⟩
   ·have hb:(!((okL p)[3]'(by show 3<6;decide)))=false:=hb;have hb:(okL p)[3]?=some true:=(by rw [gE (by show 3<6;decide)];exact Gd some (by rw [<- UC ((okL p)[3]'(by show 3<6;decide)),hb];rfl));refine⟨_,(ze (by omega)).trans rfl,4,(cvE rfl rfl),⟨by omega,fun i hi=>?_,hY.below hbW,zb hbW hevY,zb hbW hslY,hbX⟩,by decide⟩;by_cases hik:i=3
    ·rw [hik];exact hb
    ·exact hpre i (by omega)
  ·refine⟨4,rfl,by decide,?_⟩;refine⟨[i64 75,.func (.func 68) #[] #[At0 (L+1)]],rfl,zP (n:=8) (m:=2) (za hsl),hlt hsl,zo (X:=X) (v := .agg [i64 75,.func (.func 68) #[] #[At0 (L+1)]].toArray) k87 rfl rfl rfl fun Y hbY fY sY=>?_⟩;have hY:=hD.below hbY;have hevY:=zb hbY hev;have hslY:=zb hbY hsl;refine⟨_,zc (za fY) (i:=1) rfl,cmo (ztx hY) ?_⟩;rintro e W ⟨rfl,hbW⟩;have hbX:Bw w W:=((zst hbw hbY)).trans (hbW.mono (UI hbw.size hbY.size));refine biE (fun hb=>?_) fun hb=>?_
   ·have hb:(!((okL p)[4]'(by show 4<6;decide)))=true:=hb;have hb:(okL p)[4]?=some false:=(by rw [gE (by show 4<6;decide)];exact Gd some (by rw [<- UC ((okL p)[4]'(by show 4<6;decide)),hb];rfl));exact⟨_,zc (za (zb hbW fY)) (i:=0) rfl,75,rfl,⟨fun h=>Gj h (by decide),fun h=>by rw [hno hb] at h;cases h⟩,hbX⟩
   ·have hb:(!((okL p)[4]'(by show 4<6;decide)))=false:=hb;have hb:(okL p)[4]?=some true:=(by rw [gE (by show 4<6;decide)];exact Gd some (by rw [<- UC ((okL p)[4]'(by show 4<6;decide)),hb];rfl));refine⟨_,(ze (by omega)).trans rfl,5,(cvE rfl rfl),⟨by omega,fun i hi=>?_,hY.below hbW,zb hbW hevY,zb hbW hslY,hbX⟩,by decide⟩;by_cases hik:i=4
    ·rw [hik];exact hb
    ·exact hpre i (by omega)
  ·refine⟨5,rfl,by decide,?_⟩;refine⟨[i64 74,.func (.func 69) #[] #[At0 (L+1)]],rfl,zP (n:=10) (m:=2) (za hsl),hlt hsl,zo (X:=X) (v := .agg [i64 74,.func (.func 69) #[] #[At0 (L+1)]].toArray) k87 rfl rfl rfl fun Y hbY fY sY=>?_⟩;have hY:=hD.below hbY;have hevY:=zb hbY hev;have hslY:=zb hbY hsl;refine⟨_,zc (za fY) (i:=1) rfl,cmo (ztw hY) ?_⟩;rintro e W ⟨rfl,hbW⟩;have hbX:Bw w W:=((zst hbw hbY)).trans (hbW.mono (UI hbw.size hbY.size));refine biE (fun hb=>?_) fun hb=>?_
   ·have hb:(!((okL p)[5]'(by show 5<6;decide)))=true:=hb;have hb:(okL p)[5]?=some false:=(by rw [gE (by show 5<6;decide)];exact Gd some (by rw [<- UC ((okL p)[5]'(by show 5<6;decide)),hb];rfl));exact⟨_,zc (za (zb hbW fY)) (i:=0) rfl,74,rfl,⟨fun h=>Gj h (by decide),fun h=>by rw [hno hb] at h;cases h⟩,hbX⟩
   ·have hb:(!((okL p)[5]'(by show 5<6;decide)))=false:=hb;have hb:(okL p)[5]?=some true:=(by rw [gE (by show 5<6;decide)];exact Gd some (by rw [<- UC ((okL p)[5]'(by show 5<6;decide)),hb];rfl));refine⟨_,(ze (by omega)).trans rfl,6,(cvE rfl rfl),⟨by omega,fun i hi=>?_,hY.below hbW,zb hbW hevY,zb hbW hslY,hbX⟩,by decide⟩;by_cases hik:i=5
    ·rw [hik];exact hb
    ·exact hpre i (by omega)
 ·have hc:¬ (j:Int)<6:=dF hc;obtain rfl:j=6:=by omega
  exact⟨0,rfl,⟨fun _=>by rw [zmZ];exact zld hpre rfl,fun _=>rfl⟩,hbw⟩
def ThrsW (B:Nat) (w:Wd) (p:OA) (l:List (List InsD)):Prop:=∃ xs:List zen,xs.map (·.1)=l/\RowB zhN B w p xs/\∀ x∈xs,RowB zA B w x.2.1 x.1/\(x.1≠[]->∀ a,x.2.1=some a->a.block<B)
structure PrgX (B:Nat) (w:Wd) (vs:List Value) (p:Prg):Prop where
 v:PrgV B w vs p
 th:∃ p3 c3,vs[3]?=some (.slice p3 p.threads.length c3)/\ThrsW B w p3 p.threads
 init:∃ p2 c2,vs[2]?=some (.slice p2 p.init.length c2)/\RowB zR B w p2 p.init
theorem ThrsW.below {B:Nat} {w w2:Wd} {p:OA} {l:List (List InsD)} (h:ThrsW B w p l) (hb:Below B w w2):ThrsW B w2 p l:=by
 obtain⟨xs,h1,h2,h3⟩:=h;exact⟨xs,h1,h2.below hb,fun x hx=>⟨(h3 x hx).1.below hb,(h3 x hx).2⟩⟩
theorem PrgX.below {B:Nat} {w w2:Wd} {vs:List Value} {p:Prg} (h:PrgX B w vs p) (hb:Below B w w2):PrgX B w2 vs p:=by
 obtain⟨h1,⟨p3,c3,h2,h3⟩,⟨p2,c2,h4,h5⟩⟩:=h;exact⟨h1.below hb,⟨p3,c3,h2,h3.below hb⟩,⟨p2,c2,h4,h5.below hb⟩⟩
theorem zdB {α:Type} {E:Enc α} {B:Nat} {w:Wd} {p:OA} {l:List α} (h:RowB E B w p l) {i:Nat} (hi:i<l.length):∃ b o,p=some ⟨b,o,none⟩/\b<B/\∀ i (h:i<l.length),zI w ⟨b,o+i*E.sz,none⟩ (E.enc l[i]):=by
 obtain⟨b,o,hp,hat⟩:=h.get;rcases hp with hp | hp
 ·omega
 ·exact⟨b,o,hp,(hat i hi).1,fun j hj=>(hat j hj).2⟩
section
variable {l:List InsD} {dom:List UInt8} {q p:OA} {cap cd:Nat} {w:Wd}
theorem znA (hl:SlR zA w q l) (hp:SlR zR w p dom) (hok:qy l 6=true) (hqb:l≠[]->∀ a,q=some a->a.block<w.heap.size) (hpb:∀ a,p=some a->a.block<w.heap.size) (hdl:dom.length<=1000) :
  Calls PG 73 #[.slice q l.length cap,.slice p dom.length cd] w fun e w'=>((∃ (p':OA) (c':Nat),(qA l dom).length<=4096/\e = .returned (.tuple #[.slice p' (zaD (qA l dom)).length c',.bool true])/\OwnS zR 5 w.heap.size w' p' c' (zaD (qA l dom)))\/(4096<(qA l dom).length/\e = .returned (.tuple #[.slice none 0 0,.bool false])))/\Bw w w':=by
 have ht:=ziR hok;have h12:l.length<=12:=ht.1;have hR:∀ R∈qA l dom,R.many<=24:=fun R h=>(zeT ht dom R h).1;refine qk 55 [.slice q l.length cap,.slice p dom.length cd] (.c .p (.c .p (.c .p (.c .p (.s .p (.c .p .p)))))) Tryz.func73 ?_;obtain⟨L,hL⟩:=nm (w.heap.size);refine⟨Unit,fun _=>⟨[(0,.slice q l.length cap),(1,.slice p dom.length cd),(4,AtR L),(5,AtR (L+1))],[]⟩,fun _ X=>X.heap[L]?=some (.cells #[.slice none 0 0] 23 (0,0))/\X.heap[L+1]?=some (.cells #[.bool false] 4 (0,0))/\X.heap.size=L+2/\Bw w X,?_,?_⟩
 ·have s1:=wz w (.cells #[.slice none 0 0] 23);have h2:=zy (w.alloc (.cells #[.slice none 0 0] 23)) (.cells #[.bool false] 4);have s2:=wz (w.alloc (.cells #[.slice none 0 0] 23)) (.cells #[.bool false] 4);rw [s1] at h2 s2;refine⟨(),⟨.cons rfl (.cons rfl (.cons (by rw [hL];rfl) (.cons (by rw [hL,<- s1];rfl) .nil))),rfl⟩,?_,?_,?_,?_⟩
  ·rw [hL];exact qJ _ (zy w _)
  ·rw [hL];exact h2
  ·rw [hL];exact s2
  ·exact ((zba w _)).alloc (by simp) _
 rintro _ X ⟨f0,f1,sX,hbX⟩;refine⟨Unit,fun _=>⟨[(0,.slice q l.length cap),(1,.slice p dom.length cd),(4,AtR L),(5,AtR (L+1)),(6,AtR (L+2))],[]⟩,fun _ Y=>Y.heap[L+2]?=some (.cells (wrC fun _=>false).toArray 178 (0,0))/\Y.heap.size=L+3/\Bw X Y,?_,?_⟩
 ·refine⟨(),⟨.cons rfl (.cons rfl (.cons rfl (.cons rfl (.cons (by rw [<- sX];rfl) .nil)))),rfl⟩,?_,?_,?_⟩
  ·rw [<- sX,<- zuu];exact zy X _
  ·have:=wz X (.cells (List.replicate 256 (Value.bool false)).toArray 178);rw [sX] at this;exact this
  ·exact (zba X _)
 rintro _ Y ⟨f2,sY,hbY⟩;refine⟨Unit,fun _=>⟨[(0,.slice q l.length cap),(1,.slice p dom.length cd),(4,AtR L),(5,AtR (L+1)),(6,AtR (L+2)),(7,AtR (L+3))],[]⟩,fun _ Z=>Z.heap[L+3]?=some (.cells [i64 (0:Nat)].toArray 3 (0,0))/\Z.heap.size=L+4/\Bw Y Z,?_,?_⟩
 ·refine zo (X:=Y) (v:=i64 0) k3 rfl rfl rfl fun Z hbZ fZ sZ=>?_;rw [sY] at fZ sZ;exact⟨(),⟨.cons rfl (.cons rfl (.cons rfl (.cons rfl (.cons rfl (.cons (by rw [<- sY];rfl) .nil))))),rfl⟩,fZ,sZ,hbZ⟩
 rintro _ V ⟨f3,sV,hbV⟩;have hXV:Bw X V:=zst hbY hbV;have hwV:=zst hbX hXV;have f0:=zb hXV f0;have f1:=zb hXV f1;have f2:=zb hbV f2;clear hbX hbY hbV hXV;obtain⟨xs,hxs⟩:=nm (qA l dom);rw [<- hxs] at hR ⊢;refine⟨Nat,fun D1=>⟨[(4,AtR L),(5,AtR (L+1)),(6,AtR (L+2))],[{ target := .collected D1,args := #[] }]⟩,fun D1 U=>xs.length<=4096/\U.heap[L+2]?=some (.cells (wrC (wrL xs)).toArray 178 (0,0))/\U.heap[D1]?=some (.deferred (some []))/\L+2<D1/\Below (L+2) V U,?_,?_⟩
 ·refine cmo zjn ?_;rintro e W ⟨rfl,fi,fd,sW,hbW⟩;have hwW:=zst hwV hbW;have hI:=zjm (q:=q) (p:=p) (hl.below hwW) (hp.below hwW) fi fd (fun hne a ha=>by have:=hqb hne a ha;have:=hwW.size;omega) (fun a ha=>by have:=hpb a ha;have:=hwW.size;omega) ht hdl;rw [<- hxs] at hI;obtain⟨J,hJ⟩:∃ J:List RunD->Wd->Prop,J=fun pre Y=>W.heap.size<=Y.heap.size/\pre.length<=4096/\Y.heap[L+2]?=some (.cells (wrC (wrL pre)).toArray 178 (0,0))/\Y.heap[L+3]?=some (.cells [i64 pre.length].toArray 3 (0,0))/\Below (L+2) W Y:=⟨_,rfl⟩;obtain⟨F0,hF0⟩:∃ F0:Nat->Prop,F0=fun k=>k=L+2\/k=L+3\/k=L\/k=L+1:=⟨_,rfl⟩;have f0W:=zb hbW f0;have f1W:=zb hbW f1;refine zdb (ze7 _) rfl (lb := #[AtR V.heap.size,AtR (V.heap.size+1)]) rfl rfl hI (UR _) (fun k hk=>⟨?_,rfl⟩) (fun pre vs W ⟨R,b,_,h,_⟩=>by rw [h];rfl) (by decide)
   F0 (fun pre F Y=>F=F0/\J pre Y) (fun ex pre F Y=>F=F0/\W.heap.size<=Y.heap.size/\ex = .ret/\4096<xs.length/\Y.heap[L]?=some (.cells #[.slice none 0 0] 23 (0,0))/\Y.heap[L+1]?=some (.cells #[.bool false] 4 (0,0))/\Below L W Y) (fun k hk=>?_)
   (joG (F:=F0) (J:=J) (fun k h=>by rw [hF0] at h;omega) (fun s A h=>by rw [hJ] at h;exact h.1) (fun pre A B h hb=>by
    rw [hJ] at h ⊢;obtain⟨h1,h0,h2,h3,h4⟩:=h;exact⟨UI h1 hb.size,h0,jn hb (by omega) h2,jn hb (by omega) h3,h4.trans (hb.mono (by omega))⟩))
   (fun ex=>joG (F:=F0) (J:=fun (pre:List RunD) Y=>W.heap.size<=Y.heap.size/\ex = .ret/\4096<xs.length/\Y.heap[L]?=some (.cells #[.slice none 0 0] 23 (0,0))/\Y.heap[L+1]?=some (.cells #[.bool false] 4 (0,0))/\Below L W Y) (fun k h=>by rw [hF0] at h;omega) (fun s A h=>h.1) (fun pre A B ⟨h1,h2,h3,h4,h5,h6⟩ hb=>⟨UI h1 hb.size,h2,h3,jn hb (by omega) h4,jn hb (by omega) h5,h6.trans (hb.mono (by omega))⟩)) ⟨rfl,by rw [hJ];exact⟨UR _,UU _,zb hbW f2,zb hbW f3,UW _ _⟩⟩ ?_ ?_ ?_
  ·rcases hk with ((rfl | rfl) | ⟨hne,a,ha,rfl⟩ | ⟨a,ha,rfl⟩) | h
   ·omega
   ·omega
   ·have:=hqb hne a ha;have:=hwW.size;omega
   ·have:=hpb a ha;have:=hwW.size;omega
   ·exact h.elim
  ·rw [hF0];rcases hk with (rfl | rfl) | ⟨hne,a,ha,rfl⟩ | ⟨a,ha,rfl⟩
   ·omega
   ·omega
   ·have:=hqb hne a ha;omega
   ·have:=hpb a ha;omega
  ·rintro yl pre x vs F Y hyl hpre hJ0 ⟨R,b,hlast,rfl,fR⟩ hfy ⟨lo,hlo⟩;have hxR:x=R:=by simpa using hlast
   subst hxR;refine⟨rfl,F,KeepsG.refl _ _,hJ0,?_⟩;rintro o Y2 hY2 ⟨rfl,hJ2⟩;rw [hJ] at hJ2;obtain⟨h1,h0,h2,h3,h4⟩:=hJ2;have hbl:b≠yl:=fun e=>by
    rw [e] at fR;rw [fR] at hlo
    cases hlo
   have fR2:jw Y2 b x:=by rw [hY2];exact (zj hbl).trans fR
   have r1:=hR x (hpre.subset (by simp));have hpl:pre.length<xs.length:=by
    obtain⟨t,ht⟩:=hpre;rw [<- ht];simp only [lap,Qp];omega
   refine⟨_,zc (za h3) (i:=0) rfl,?_⟩;refine biE (fun hct=>?_) fun hct=>?_
   ·have hct:(pre.length:Int)=4096:=dT hct;have g0:Y2.heap[L]?=some (.cells #[.slice none 0 0] 23 (0,0)):=(h4.block L (by omega)).trans f0W;have g1:Y2.heap[L+1]?=some (.cells #[.bool false] 4 (0,0)):=(h4.block (L+1) (by omega)).trans f1W;refine zm k23 g0 (o:=0) (v := .slice none 0 0) rfl rfl (by show 0<1;decide) rfl fun Z1 fZ1 gZ1 sZ1=>?_;have g1':=(gZ1.block (L+1) (hlt g1) (by simp)).trans g1;refine zm k4 g1' (o:=0) (v := .bool false) rfl rfl (by show 0<1;decide) rfl fun Z2 fZ2 gZ2 sZ2=>?_;refine⟨F,⟨rfl,by omega,rfl,by omega,(gZ2.block L (hlt fZ1) (by simp)).trans fZ1,fZ2,?_⟩,(KeepsG.grown (F:=F) gZ1 (by rw [hF0];exact .inr (.inr (.inl rfl)))).trans (KeepsG.grown (F:=F) gZ2 (by rw [hF0];exact .inr (.inr (.inr rfl))))⟩;exact ((h4.mono (by omega)).trans (zk gZ1 (by omega) (UR _))).trans (zk gZ2 (by omega) (by omega))
   have hct:¬ (pre.length:Int)=4096:=dF hct;refine⟨_,zc (za h3) (i:=0) rfl,?_⟩;refine⟨((pre.length+1:Nat):Int),(ze (by omega)).trans (by omega),?_⟩;refine zm k3 h3 (o:=0) (v:=i64 (pre.length+1:Nat)) rfl rfl (by show 0<1;decide) rfl fun Z fZ gZ sZ=>?_;have fRZ:jw Z b x:=(gZ.block b (hlt fR2) (fun e=>by
    have e:b=L+3:=(by simpa using e);rw [e] at fR2;rw [fR2] at h3;simp at h3)).trans fR2
   have f2Z:=(gZ.block (L+2) (hlt h2) (by simp)).trans h2;have kZ:KeepsG F F Y2 Z:=KeepsG.grown gZ (by rw [hF0];exact .inr (.inl rfl));have bZ:Below (L+2) W Z:=h4.trans (zk gZ (by omega) (by omega));refine DrawE.ord [] [0,1,2,3,4,5,6,7,8,9] (by kernel_rfl) ?_;have hdZ:Bw Z Z.drew:=(UW _ _).drew;refine⟨_,zc (za (hdr fRZ)) (i:=18) (zbH x),?_⟩;refine⟨x.many,rfl,r1,?_⟩;have ecut:ji (some ⟨b,0+19,none⟩) 24 0 7=some ⟨b,19,none⟩:=by rw [zcS,UM]
   refine⟨Nat,fun i=>⟨[(6,AtR (L+2)),(7,AtR (L+3)),(29,.slice (some ⟨b,19,none⟩) (x.many-0) (24-0)),(30,i64 (x.many:Nat)),(31,i64 (i:Nat))],[]⟩,
    fun i T=>i<=x.many/\T.heap[L+2]?=some (.cells (wrC fun v=>wrL pre v||wrE x i v).toArray 178 (0,0))/\jw T b x/\T.heap[L+3]?=some (.cells [i64 (pre.length+1:Nat)].toArray 3 (0,0))/\KeepsG F F Y2 T/\Below (L+2) W T,fun i=>x.many-i,0,
    ⟨.cons rfl (.cons rfl (.cons (by rw [<- ecut];rfl) (.cons rfl (.cons rfl .nil)))),rfl⟩,⟨UU _,?_,hdr fRZ,hdr fZ,kZ.trans (KeepsG.below hdZ fun k h => .inl h),bZ.drew⟩,?_⟩
   ·have e:(fun v=>wrL pre v||wrE x 0 v)=wrL pre:=by
     funext v;show (wrL pre v||false)=_;rw [Us]
    rw [e];exact f2Z
   rintro i T ⟨hi,t2,tR,t3,kT,bT⟩;have hTs:=kT.size;refine biE (fun hc=>?_) fun hc=>?_
   ·have hc:(i:Int)<(x.many:Int):=dT hc;have him:i<x.many:=(by omega);refine⟨i,rfl,him,?_⟩;have hev:zI T ⟨b,19+i*7,none⟩ (evE.enc (x.ev i)):=by
     have:=zP (n:=i*7) (m:=7) (zmB tR);rw [zpZ x.ev (show i<24 by omega)] at this;exact this
    refine⟨evE.enc (x.ev i),rfl,hev,hlt tR,?_⟩;refine zo (X:=T) (v := .agg (evE.enc (x.ev i)).toArray) k49 rfl rfl rfl fun T2 hb2 fT2 sT2=>?_;have k2:KeepsG F F Y2 T2:=kT.trans (KeepsG.below hb2 fun k h => .inl h);have b2:Below (L+2) W T2:=bT.trans (hb2.mono (by omega));have n1:=zoN x i;refine⟨_,zc (za fT2) (i:=1) rfl,?_⟩;have u2:=zb hb2 t2;have uR:=zb hb2 tR;have u3:=zb hb2 t3;refine biE (fun hk=>?_) fun hk=>?_
    ·have hk:(x.ev i).k=2:=qq.1 (dT hk);refine⟨_,zc (za fT2) (i:=3) rfl,?_⟩;refine⟨((x.ev i).v).toNat,rfl,((x.ev i).v).toNat_lt,?_⟩;refine zm k4 u2 (o:=0+((x.ev i).v).toNat*1) (v := .bool true) rfl rfl (by rw [zmt];have:=((x.ev i).v).toNat_lt;omega) rfl fun T3 fT3 gT3 sT3=>?_;rw [UM,US,zqP] at fT3;have k3:KeepsG F F Y2 T3:=k2.trans (KeepsG.grown gT3 (by rw [hF0];exact .inl rfl));have hT2s:=k2.size;refine nxI (by omega) ?_;refine⟨i+1,(cvE rfl rfl),⟨him,?_,(gT3.block b (hlt uR) (fun e=>by
      have e:b=L+2:=(by simpa using e);rw [e] at uR;rw [uR] at u2;simp at u2)).trans uR,(gT3.block (L+3) (hlt u3) (by simp)).trans u3,k3,b2.trans (zk gT3 (by omega) (UR _))⟩,zdc (by omega)⟩
     have e:(fun v=>wrL pre v||wrE x (i+1) v)=fun v=>(wrL pre v||wrE x i v)||decide ((x.ev i).v=v):=by
      funext v;rw [n1,Un hk,Ut,Bool.or_assoc]
     rw [e];exact fT3
    ·have hk:¬ (x.ev i).k=2:=fun e=>(dF hk) (by rw [e];rfl);refine nxI (by omega) ?_;refine⟨i+1,(cvE rfl rfl),⟨him,?_,uR,u3,k2,b2⟩,zdc (by omega)⟩;have e:(fun v=>wrL pre v||wrE x (i+1) v)=fun v=>(wrL pre v||wrE x i v):=by
      funext v;rw [n1,Uc hk,Ue,Us]
     rw [e];exact u2
   ·have hc:¬ (i:Int)<(x.many:Int):=dF hc;obtain rfl:i=x.many:=(by omega);refine⟨F,⟨rfl,?_⟩,kT⟩;rw [hJ];refine⟨by omega,by rw [lap];show pre.length+1<=4096;omega,?_,by rw [lap];exact t3,bT⟩;have e:wrL (pre++[x])=fun v=>wrL pre v||wrE x x.many v:=by
     funext v;exact zoL pre x v
    rw [e];exact t2
  ·rintro D1 F Y hD hfD ⟨rfl,hj⟩ hdef;rw [hJ] at hj;obtain⟨h1,h0,h2,h3,h4⟩:=hj;exact⟨D1,(cvE rfl rfl),h0,h2,hdef,by omega,(hbW.mono (by omega)).trans h4⟩
  ·rintro D ex pre F Y hD hfD hpre ⟨rfl,h1,rfl,hlong,g0,g1,hbY⟩ hdef;refine⟨_,rfl,hdef,?_⟩;refine⟨.slice none 0 0,zc (za ((zj (by omega)).trans g0)) (i:=0) rfl,.bool false,zc (za ((zj (by omega)).trans g1)) (i:=0) rfl,.inr ⟨hlong,rfl⟩,?_⟩;have hwY:=hwW.trans (hbY.mono (by omega));exact q8 hwY (by have:=hwV.size;omega) _
 clear f2 f3;rintro D1 U ⟨hm,f2,fD1,hLD,bU⟩;have f0:U.heap[L]?=some (.cells #[.slice none 0 0] 23 (0,0)):=(bU.block L (by omega)).trans f0;have f1:U.heap[L+1]?=some (.cells #[.bool false] 4 (0,0)):=(bU.block (L+1) (by omega)).trans f1;have hwU:Bw w U:=hwV.trans (bU.mono (by omega));have sU:=hlt f2;have sD:=hlt fD1;clear bU hwV;refine⟨List UInt8×OA×Nat,fun s=>⟨[(4,AtR L),(5,AtR (L+1)),(11,.slice s.2.1 s.1.length s.2.2)],[{ target := .collected D1,args := #[] }]⟩,fun s Z=>s.1=zaD xs/\OwnS zR 5 U.heap.size Z s.2.1 s.2.2 s.1/\Bw U Z,?_,?_⟩
 ·refine⟨wrC (wrL xs),zmt _,za f2,hlt f2,?_⟩;refine⟨Nat×OA×Nat,fun s=>⟨[(4,AtR L),(5,AtR (L+1)),(11,.slice s.2.1 ((z4.take s.1).filter (wrL xs)).length s.2.2),(42,.agg (wrC (wrL xs)).toArray),(43,i64 (s.1:Nat))],[{ target := .collected D1,args := #[] }]⟩,
   fun s Z=>s.1<=256/\OwnS zR 5 U.heap.size Z s.2.1 s.2.2 ((z4.take s.1).filter (wrL xs))/\Bw U Z,fun s=>256-s.1,(0,none,0),
   (cvE rfl rfl),⟨UU _,OwnS.nil,UW _ _⟩,?_⟩
  rintro⟨k,r,c⟩ Z ⟨hk,ho,hbZ⟩;dsimp only at hk ho ⊢;have hZs:=hbZ.size;refine biE (fun hc=>?_) fun hc=>?_
  ·have hc:(k:Int)<256:=dT hc;have hk2:k<256:=by omega
   have tk:z4.take (k+1)=z4.take k++[UInt8.ofNat k]:=by
    obtain⟨hlb,hbk⟩:=zqm hk2;rw [tsg hlb,hbk]
   have fl:(z4.take (k+1)).filter (wrL xs)=(z4.take k).filter (wrL xs)++(if wrL xs (UInt8.ofNat k)=true then [UInt8.ofNat k] else []):=by
    rw [tk,Kt,zl2]
   have hfl:((z4.take k).filter (wrL xs)).length<=256:=by
    have h1:=JL (wrL xs) (z4.take k);rw [Qr] at h1;omega
   refine⟨k,rfl,hk2,?_⟩;refine zay (by rw [US];exact zlp _ hk2) ?_;refine biE (fun hv=>?_) fun hv=>?_
   ·rw [Gi hv] at fl;refine⟨_,w8N k,?_⟩;refine⟨⟨by decide,by decide,rfl⟩,zR.enc (UInt8.ofNat k),rfl,?_⟩;have hba:Bw Z (Z.alloc (.cells (zR.enc (UInt8.ofNat k)).toArray 5)):=zba _ _;refine jj (E:=zR) (T:=5) (B:=U.heap.size) (l:=(z4.take k).filter (wrL xs)) (news:=[UInt8.ofNat k]) (cap:=c) (m:=1) Tryz.underlying23 k5 rfl rfl rfl (ho.below hba) rfl (qK zR (UInt8.ofNat k)) (by have:=hba.size;omega) (by omega) (by show (((z4.take k).filter (wrL xs)).length+1)*1<=_;omega) ?_;intro p2 c2 T oT gT hbT hat;refine nxI (by omega) ?_;refine⟨(k+1,p2,c2),⟨.cons rfl (.cons rfl (.cons (by rw [fl];rfl) (.cons rfl (.cons rfl .nil)))),rfl⟩,⟨hk2,by show OwnS zR _ _ _ _ _ ((z4.take (k+1)).filter (wrL xs));rw [fl];exact oT,(hbZ.trans (hba.mono hZs)).trans hbT⟩,zdc (by omega)⟩
   ·have hv:wrL xs (UInt8.ofNat k)=false:=hv;rw [hv,Gh Ks,QF] at fl;refine nxI (by omega) ?_;exact⟨(k+1,r,c),⟨.cons rfl (.cons rfl (.cons (by rw [fl];rfl) (.cons rfl (.cons rfl .nil)))),rfl⟩,⟨hk2,by show OwnS zR _ _ _ _ _ ((z4.take (k+1)).filter (wrL xs));rw [fl];exact ho,hbZ⟩,zdc (by omega)⟩
  ·have hc:¬ (k:Int)<256:=dF hc;obtain rfl:k=256:=by omega
   have e:(z4.take 256).filter (wrL xs)=zaD xs:=by
    rw [zln,JF (by unfold z4;rw [QI,KS];exact UR _)]
   rw [e] at ho;exact⟨(zaD xs,r,c),⟨.cons rfl (.cons rfl (.cons (by rw [e];rfl) .nil)),rfl⟩,rfl,ho,hbZ⟩
 rintro⟨ys,r,c⟩ Z ⟨rfl,ho,hbZ⟩;dsimp only at ho ⊢;have hZs:=hbZ.size;have g0:=zb hbZ f0;have g1:=zb hbZ f1;have gD:=zb hbZ fD1;refine zm k23 g0 (o:=0) (v := .slice r (zaD xs).length c) rfl rfl (by show 0<1;decide) rfl fun Z1 fZ1 gZ1 sZ1=>?_;have g1':=(gZ1.block (L+1) (hlt g1) (by simp)).trans g1;refine zm k4 g1' (o:=0) (v := .bool true) rfl rfl (by show 0<1;decide) rfl fun Z2 fZ2 gZ2 sZ2=>?_;have k2:∀ k,k<Z.heap.size->k≠L->k≠L+1->Z2.heap[k]?=Z.heap[k]?:=fun k hk n1 n2=>(gZ2.block k (by rw [sZ1];exact hk) (by simpa using n2)).trans (gZ1.block k hk (by simpa using n1));have fZ1':=(gZ2.block L (hlt fZ1) (by simp)).trans fZ1;refine⟨_,rfl,(k2 D1 (hlt gD) (by omega) (by omega)).trans gD,?_⟩;refine⟨.slice r (zaD xs).length c,?_,.bool true,?_,.inl ⟨r,c,hm,rfl,?_⟩,?_⟩
 ·exact zc (za ((zj (by omega)).trans fZ1')) (i:=0) rfl
 ·exact zc (za ((zj (by omega)).trans fZ2)) (i:=0) rfl
 ·refine OwnS.lower (ho.same fun a ha=>?_) hwU.size;have h:=zaJ ho ha;exact (zj (by omega)).trans (k2 _ h.2.1 (by omega) (by omega))
 ·have hwZ:=zst hwU hbZ;exact q8 ((hwZ.trans (zk gZ1 hwZ.size (by omega))).trans (zk gZ2 (by rw [sZ1];exact hwZ.size) (by omega))) (by omega) _
end
structure OkG (p:Prg):Prop where
 l1:1<=p.locs.length
 l6:p.locs.length<=6
 il:p.locs.length=p.init.length
 t1:1<=p.threads.length
 t4:p.threads.length<=4
 th:∀ l∈p.threads,qy l 6=true
 tl:∀ l∈p.threads,qy l p.locs.length=true
theorem OkG.i1 {p:Prg} (h:OkG p):1<=p.init.length:=by have:=h.l1;have:=h.il;omega
theorem OkG.i6 {p:Prg} (h:OkG p):p.init.length<=6:=by have:=h.l6;have:=h.il;omega
theorem zoh {x:InsD} {k k' n:Nat} (hk:k<=k') (h:zhU x k n=true):zhU x k' n=true:=by
 unfold zhU qT at h ⊢;simp only [Uv,List.all_nil,id_eq,Bool.and_true,bAT,dE,QC] at h ⊢;obtain⟨h1,h2,h3,h4,h5⟩:=h;exact⟨h1,h2,h3,h4.imp id (fun h=>nL h hk),h5⟩
theorem ziQ {l:List InsD} {k k':Nat} (hk:k<=k') (h:qy l k=true):qy l k'=true:=by
 unfold qy at h ⊢;rw [bAT,dE,Qg] at h ⊢;refine⟨h.1,fun i hi=>?_⟩;have:=h.2 i hi
 split at this
 ·exact zoh hk this
 ·rfl
theorem zga {p:Prg} (h:zdf p=true):OkG p:=by
 unfold zdf at h;simp only [bAT] at h;obtain⟨_,h2,⟨h4a,h4b,h5⟩,h6,_,h8⟩:=h;unfold zd0 at h2;simp only [bAT,dE] at h2 h4a h4b;have h7:=Qg.1 h6;exact⟨h2.1,h2.2.1,h2.2.2.1.symm,h4a,h4b,fun l hl=>ziQ h2.2.1 (h7 l hl),h7⟩
def zhZ (threads:List (List InsD)):Nat->List UInt8->Option (List UInt8)
 | 0,_=>none
 | n+1,vals=>if 16<vals.length then none else if (threads.any fun l=>decide (4096<(qA l vals).length))=true then none else if (zbx threads vals).length=vals.length then some vals else zhZ threads n (zbx threads vals)
def zdz (p:Prg):Option (List UInt8):=zhZ p.threads 18 (jl p.init)
theorem zcR (l:List UInt8):jl (jl l)=jl l:=zjo (zhv l)
theorem ziA {l:List UInt8} (h:1<=l.length):1<=(jl l).length:=by
 cases l with
 | nil=>simp at h
 | cons x r=>exact List.length_pos_of_mem (zft.2 (Kx ..))
theorem zjJ (rs:List RunD):(zaD rs).length<=256:=by
 refine UI (JL ..) ?_;unfold z4;rw [QI,KS];exact UR _
theorem zm7 {α β:Type} {g:α->List β} (hg:∀ a,(g a).length<=256):∀ l:List α,(l.flatMap g).length<=256*l.length
 | []=>UR _
 | a::l=>by
  rw [KO,lap,Qp];have:=hg a;have:=zm7 hg l;omega
theorem zp5 {a b:List UInt8} (h:∀ x,x∈a->x∈b):(jl a).length<=(jl b).length:=by
 unfold jl;rw [<- List.countP_eq_length_filter,<- List.countP_eq_length_filter];refine List.countP_mono_left fun x _ hx=>?_;obtain⟨y,hy,e⟩:=Qh.1 hx;exact Qh.2 ⟨y,h y hy,e⟩
theorem ziv (ths:List (List InsD)) {vals:List UInt8} (h:jl vals=vals):vals.length<=(zbx ths vals).length:=by
 unfold zbx
 conv=>lhs;rw [<- h]
 exact zp5 fun x hx=>JV _ hx
section
variable {B:Nat} {p:Prg} {pc:List Value} {w:Wd}
theorem zoF (hB:B<=w.heap.size) (hP:PrgX B w pc p) (hG:GlobE w) (hok:zdf p=true) :
  Calls PG 29 #[.agg pc.toArray,i64 16] w fun e w'=>((∃ (V:List UInt8) (q:OA) (c:Nat),zdz p=some V/\e = .returned (.tuple #[.slice q V.length c,i64 0])/\OwnS zR 5 w.heap.size w' q c V)\/(zdz p=none/\e = .returned (.tuple #[.slice none 0 0,i64 5])))/\Bw w w':=by
 have hOP:=zga hok;have hi1:=hOP.i1;have hi6:=hOP.i6;refine qk 60 [.agg pc.toArray,i64 16] (.c .p (.s .p (.c .p .p))) Tryz.func29 ?_;obtain⟨L,hL⟩:=nm (w.heap.size);have hpc:=hP.v.size;have hthr:=hP.v.len.threads;refine⟨Unit,fun _=>⟨[(1,i64 16),(2,AtR L)],[]⟩,fun _ X=>X.heap[L]?=some (.cells pc.toArray 29 (0,0))/\Bw w X,⟨(),⟨.cons rfl (.cons (by rw [hL];rfl) .nil),rfl⟩,by rw [hL];exact zy w _,(zba w _)⟩,?_⟩;rintro _ X ⟨f0,hbX⟩;refine brF (brF ⟨pc,hpc,za f0,hlt f0,cmo (zjD (UI hB hbX.size) (hP.v.below (hbX.mono hB)) (hG.c.below hbX)) ?_⟩);rintro e Y ⟨m,rfl,hm,hbY⟩;have hm0:m=0:=hm.2 hok;subst hm0;refine brF ?_;have hwY:=zst hbX hbY;have f0:=zb hbY f0;obtain⟨_,⟨p3,c3,h3,xs,hxs,zc3,hxr⟩,⟨p2,c2,h2,hinit⟩⟩:=hP;refine⟨OA×Nat,fun s=>⟨[(1,i64 16),(2,AtR L),(6,.slice s.1 (jl p.init).length s.2)],[]⟩,fun s Z=>OwnS zR 5 w.heap.size Z s.1 s.2 (jl p.init)/\Z.heap[L]?=some (.cells pc.toArray 29 (0,0))/\Bw w Z,?_,?_⟩
 ·refine⟨_,zc (za f0) (i:=2) (by simpa using h2),cmo (zdp ((hinit.below (hwY.mono hB)).slr (UI hB hwY.size)) hi1 (by omega)) ?_⟩;rintro e Z ⟨⟨q,c,rfl,ho⟩,hbZ⟩;exact⟨(q,c),(cvE rfl rfl),OwnS.lower ho hwY.size,zb hbZ f0,(zst hwY hbZ)⟩
 rintro⟨q,c⟩ X ⟨ho,f0,hbX⟩;obtain⟨R,hR⟩:=nm (zdz p);rw [<- hR];refine⟨List UInt8×OA×Nat,fun s=>⟨[(1,i64 16),(2,AtR L),(6,.slice s.2.1 s.1.length s.2.2)],[]⟩,
  fun s Z=>((1<=s.1.length/\jl s.1=s.1)/\∃ n,18<=n+s.1.length/\zhZ p.threads n s.1=R)/\OwnS zR 5 w.heap.size Z s.2.1 s.2.2 s.1/\Z.heap[L]?=some (.cells pc.toArray 29 (0,0))/\Bw w Z,fun s=>300-s.1.length,(jl p.init,q,c),
  (cvE rfl rfl),⟨⟨⟨ziA hi1,zcR _⟩,18,Qv _ _,hR.symm⟩,ho,f0,hbX⟩,?_⟩
 rintro⟨vals,q,c⟩ X ⟨⟨⟨hv1,hvd⟩,n,hn,hQ⟩,ho,f0,hbX⟩;dsimp only at hv1 hvd hn hQ ho ⊢;have hv256:vals.length<=256:=by rw [<- hvd];exact zdP _
 refine biE (fun h16=>?_) fun h16=>?_
 ·have h16:(16:Int)<(vals.length:Int):=dT h16;have e:R=none:=by
   rw [<- hQ]
   cases n with
   | zero=>rfl
   | succ n=>exact Gi (by omega)
  exact⟨.inr ⟨e,rfl⟩,hbX⟩
 have h16:¬ (16:Int)<(vals.length:Int):=dF h16;obtain⟨k,rfl⟩:∃ k,n=k+1:=⟨n-1,by omega⟩;have hQ:(if 16<vals.length then none else if (p.threads.any fun l=>decide (4096<(qA l vals).length))=true then none else if (zbx p.threads vals).length=vals.length then some vals else zhZ p.threads k (zbx p.threads vals))=R:=hQ;rw [Gh (by omega)] at hQ;have hq0:q=none->c=0:=fun e=>by
  rcases ho.inv with ⟨_,h,_⟩ | ⟨g,_,h,_⟩
  ·exact h
  ·rw [e] at h;cases h
 have hqb:∀ a,q=some a->a.block<X.heap.size:=fun a ha=>(zaJ ho ha).2.1;refine cmo (zlj ho.row (by omega) hq0) ?_;rintro e Y ⟨⟨q1,k1,rfl,o1⟩,hbY⟩;have hwY:=zst hbX hbY;have f0Y:=zb hbY f0;have hl3:xs.length=p.threads.length:=by rw [<- hxs,QI]
 refine⟨_,zc (za f0Y) (i:=3) (by simpa using h3),?_⟩;obtain⟨g,hg⟩:∃ g:List InsD->List UInt8,g=fun l=>zaD (qA l vals):=⟨_,rfl⟩;have hnx:zbx p.threads vals=jl (vals++p.threads.flatMap g):=by unfold zbx;rw [hg]
 have hgl:∀ l,(g l).length<=256:=fun l=>by rw [hg];exact zjJ _
 have hth4:=hOP.t4;refine⟨Nat×OA×Nat,fun s=>⟨[(1,i64 16),(2,AtR L),(6,.slice q vals.length c),(7,.slice s.2.1 (vals++(p.threads.take s.1).flatMap g).length s.2.2),(33,.slice p3 p.threads.length c3),(34,i64 p.threads.length),(35,i64 (s.1:Nat))],[]⟩,
  fun s Z=>(s.1<=p.threads.length/\∀ l∈p.threads.take s.1,(qA l vals).length<=4096)/\OwnS zR 5 X.heap.size Z s.2.1 s.2.2 (vals++(p.threads.take s.1).flatMap g)/\Bw X Z,fun s=>p.threads.length-s.1,(0,q1,k1),
  ⟨.cons rfl (.cons rfl (.cons rfl (.cons (by rw [Uk,Qm,QF];rfl) (.cons rfl (.cons rfl (.cons rfl .nil)))))),rfl⟩,⟨⟨UU _,fun l hl=>by cases hl⟩,by show OwnS zR _ _ _ _ _ (vals++(p.threads.take 0).flatMap g);rw [Uk,Qm,QF];exact o1,hbY⟩,?_⟩
 rintro⟨m,q1,k1⟩ Y ⟨⟨hm,hsm⟩,o1,hbY⟩;dsimp only at hm hsm o1 ⊢;have hwY:=zst hbX hbY;have f0Y:=zb hbY f0;have hXY:=hbY.size;have lenTake:∀ j,(vals++(p.threads.take j).flatMap g).length<=1280:=fun j=>by
  have h1:=zm7 hgl (p.threads.take j);rw [Qr] at h1;rw [lap];omega
 refine biE (fun hc=>?_) fun hc=>?_
 ·have hc:(m:Int)<(p.threads.length:Int):=dT hc;have hmt:m<p.threads.length:=by omega
  have hmx:m<xs.length:=by omega
  obtain⟨b3,o3,hp3,hb3,hat3⟩:=zdB (zc3.below (hwY.mono hB)) hmx;have hB2:b3<Y.heap.size:=nL hb3 (UI hB hwY.size);have e3:some (Value.slice p3 p.threads.length c3)=some (Value.slice (some ⟨b3,o3,none⟩) p.threads.length c3):=by rw [hp3]
  subst hp3;refine⟨m,rfl,hmt,zjR xs[m],by have:=zc (hat3 m hmx) (i:=0) (v:=zjR xs[m]) rfl;exact this,?_⟩;obtain⟨hrm,hrb⟩:=hxr _ (gM hmx);have hxm:xs[m].1=p.threads[m]:=by
   have:=Gd (fun l=>l[m]?) hxs;simp only [KR,gE hmx,gE hmt,QZ,KW] at this;exact this
  have hmem:=gM hmt;have hxl:xs[m].1.length=p.threads[m].length:=by rw [hxm]
  have hw:=znA (w:=Y) (l:=p.threads[m]) (dom:=vals) (q:=xs[m].2.1) (p:=q) (cap:=xs[m].2.2) (cd:=c) (by rw [<- hxm];exact (hrm.below (hwY.mono hB)).slr (UI hB hwY.size)) (ho.row.below hbY) (hOP.th _ hmem) (fun hne a ha=>nL (hrb (by rw [hxm];exact hne) a ha) (UI hB hwY.size)) (fun a ha=>nL (hqb a ha) hXY) (by omega);rw [<- hxl] at hw;have eg:zaD (qA p.threads[m] vals)=g p.threads[m]:=by rw [hg]
  rw [eg] at hw;refine cmo hw ?_;rintro e Z ⟨(⟨q2,k2,hs,rfl,o2⟩ | ⟨hs,rfl⟩),hbZ⟩
  case inr =>
   refine brT ?_;have e:R=none:=by
    rw [<- hQ];exact Gi (Qh.2 ⟨_,hmem,Un hs⟩)
   exact⟨.inr ⟨e,rfl⟩,hbX.trans ((hbY.trans (hbZ.mono hXY)).mono hbX.size)⟩
  refine brF ?_;have tk:(p.threads.take (m+1)).flatMap g=(p.threads.take m).flatMap g++g p.threads[m]:=by
   rw [tsg hmt,Ke,KO,Qm,QF]
  have l1:=lenTake m;have l2:=lenTake (m+1);rw [tk,<- KL,lap] at l2;have hXZ:=hbY.trans (hbZ.mono hXY);have hsZ:=hbZ.size;refine zgl (E:=zR) (T:=5) (B:=X.heap.size) (l:=vals++(p.threads.take m).flatMap g) (news:=g p.threads[m]) (cap:=k1) (m:=(g p.threads[m]).length) Tryz.underlying23 k5 rfl rfl rfl (o1.below hbZ) rfl o2.row (fun e=>by
   rcases o2.inv with ⟨_,h,_⟩ | ⟨g',_,h,_⟩
   ·exact h
   ·rw [e] at h;cases h) (by omega) (by omega) (by show ((vals++(p.threads.take m).flatMap g).length+(g p.threads[m]).length)*1<=_;omega) ?_
  intro q4 k4 U oU gU hbU;rw [KL,<- tk] at oU ⊢;refine nxI (by omega) ⟨(m+1,q4,k4),(cvE rfl rfl),⟨⟨hmt,fun l hl=>?_⟩,oU,hXZ.trans hbU⟩,zdc (by omega)⟩;have hl:l∈p.threads.take (m+1):=hl;rw [tsg hmt] at hl;rcases QM.1 hl with hl | hl
  ·exact hsm l hl
  ·rw [Ky.1 hl];exact hs
 ·have hc:¬ (m:Int)<(p.threads.length:Int):=dF hc;obtain rfl:m=p.threads.length:=by omega
  rw [Qt] at o1 hsm ⊢;have l3:=lenTake p.threads.length;rw [Qt] at l3;rw [Gh (fun h=>by
   obtain⟨l,hl,e⟩:=Qh.1 h;have:=hsm l hl;have:=dT e;omega)] at hQ
  refine cmo (zdp o1.row (by rw [lap];omega) (by omega)) ?_;rintro e Z ⟨⟨q2,k2,rfl,o2⟩,hbZ⟩;rw [<- hnx] at o2 ⊢;have hXZ:=hbY.trans (hbZ.mono hXY);have hwZ:=zst hbX hXZ;refine biE (fun he=>?_) fun he=>?_
  ·have he:(zbx p.threads vals).length=vals.length:=by
    have:=dT he;omega
   rw [Gi he] at hQ;exact⟨.inl ⟨vals,q,c,hQ.symm,rfl,ho.below hXZ⟩,hwZ⟩
  ·have he:¬ (zbx p.threads vals).length=vals.length:=fun e=>(dF he) (by rw [e]);rw [Gh he] at hQ;have hge:=ziv p.threads hvd;have hle:(zbx p.threads vals).length<=256:=zdP _;exact⟨(zbx p.threads vals,q2,k2),(cvE rfl rfl),⟨⟨⟨by show 1<=(zbx p.threads vals).length;omega,zcR _⟩,k,by show 18<=k+(zbx p.threads vals).length;omega,hQ⟩,OwnS.lower o2 hwY.size,zb hXZ f0,hwZ⟩,by show 300-(zbx p.threads vals).length<300-vals.length;omega⟩
end
abbrev zH (V:List UInt8) (l:List InsD):List PathD:=(qA l V).map j4
abbrev qi (p:Prg) (V:List UInt8):List MixD:=zpy p.init (p.threads.map (zH V))
def zc0 (p:Prg) (V:List UInt8):Prop :=
 (∀ l∈p.threads,(qA l V).length<=4096)/\(∀ k,k<=p.threads.length->zbv ((p.threads.take k).map fun l=>(zH V l).length)<=4096) /\
  ∀ ds∈qa ((p.threads.map (zH V)).map List.length),(zg5 p.init (qE (p.threads.map (zH V)) ds)).isSome=true
section
variable {w:Wd} {bP cv B:Nat} {pc:List Value} {qv:OA} {V:List UInt8} {p:Prg}
theorem zpz (fP:w.heap[bP]?=some (.cells pc.toArray 29 (0,0))) (hB:B<=w.heap.size) (hP:PrgX B w pc p) (hO:OkG p) (hG:GlobE w) (hV:SlR zR w qv V) (hv1:1<=V.length) (hVd:jl V=V) (hpb:∀ l∈p.threads,∀ P∈zH V l,PathB p.init.length P) :
  Calls PG 30 #[At0 bP,.slice qv V.length cv] w fun e w'=>((zc0 p V/\∃ (ms:List MixX) (q:OA) (c:Nat),e = .returned (.tuple #[.slice q ms.length c,.bool true])/\ms.map (·.m)=qi p V/\OwnS zhR 95 w.heap.size w' q c ms/\∀ x∈ms,NInM w.heap.size (fun k=>w.heap.size<=k) w' x)\/(¬ zc0 p V/\e = .returned (.tuple #[.slice none 0 0,.bool false])))/\Bw w w':=by
 have hil:=hO.il;have hi6:=hO.i6;have ht4:=hO.t4;have hv256:V.length<=256:=by rw [<- hVd];exact zdP V
 refine qk 89 [At0 bP,.slice qv V.length cv] (.c .p (.c .p (.s .p (.s .p (.c .p (.c .p (.s .p .p))))))) Tryz.func30 ?_;obtain⟨L,hL⟩:=nm (w.heap.size);have hbP:=hlt fP;refine⟨Unit,fun _=>⟨[(1,.slice qv V.length cv),(2,At0 L),(4,At0 (L+1)),(5,At0 (L+2))],[]⟩,fun _ X=>X.heap[L]?=some (.cells #[At0 bP] 85 (0,0))/\X.heap[L+1]?=some (.cells #[.slice none 0 0] 90 (0,0))/\X.heap[L+2]?=some (.cells #[.bool false] 4 (0,0))/\X.heap.size=L+3/\Bw w X,?_,?_⟩
 ·have s1:=wz w (.cells #[At0 bP] 85);have h2:=zy (w.alloc (.cells #[At0 bP] 85)) (.cells #[.slice none 0 0] 90);have s2:=wz (w.alloc (.cells #[At0 bP] 85)) (.cells #[.slice none 0 0] 90);have h3:=zy ((w.alloc (.cells #[At0 bP] 85)).alloc (.cells #[.slice none 0 0] 90)) (.cells #[.bool false] 4);have s3:=wz ((w.alloc (.cells #[At0 bP] 85)).alloc (.cells #[.slice none 0 0] 90)) (.cells #[.bool false] 4);rw [s1] at h2 s2;rw [s2] at h3 s3;refine⟨(),⟨.cons rfl (.cons (by rw [hL];rfl) (.cons (by rw [hL,<- s1];rfl) (.cons (by rw [hL,<- s2];rfl) .nil))),rfl⟩,?_,?_,?_,?_,?_⟩
  ·rw [hL];exact qJ _ (qJ _ (zy w _))
  ·rw [hL];exact qJ _ h2
  ·rw [hL];exact h3
  ·rw [hL];exact s3
  ·exact (((zba w _)).alloc (by simp) _).alloc (by simp;omega) _
 rintro _ X ⟨f0,f1,f2,sX,hbX⟩;refine⟨Unit,fun _=>⟨[(1,.slice qv V.length cv),(2,At0 L),(4,At0 (L+1)),(5,At0 (L+2)),(6,At0 (L+3))],[]⟩,fun _ Y=>MxS w.heap.size Y L bP [] none 0 [] none 0/\Bw w Y,?_,?_⟩
 ·refine⟨(),⟨.cons rfl (.cons rfl (.cons rfl (.cons rfl (.cons (by rw [<- sX];rfl) .nil)))),rfl⟩,⟨qJ _ f0,qJ _ f1,qJ _ f2,by rw [<- sX];exact zy X _,OwnS.nil,OwnS.nil,fun z hz=>(by cases hz),fun z hz=>(by cases hz)⟩,hbX.alloc hbX.size _⟩
 clear f0 f1 f2 sX hbX;rintro _ X ⟨hS,hbX⟩;have hP0:=hP;obtain⟨_,⟨p3,c3,h3,xs,hxs,zc3,hxr⟩,⟨p2,c2,h2,hinit⟩⟩:=hP;have hxl:xs.length=p.threads.length:=by rw [<- hxs,QI]
 refine⟨(List TpR×OA×Nat)×OA×Nat,fun s=>⟨[(2,At0 L),(4,At0 (L+1)),(5,At0 (L+2)),(6,At0 (L+3)),(7,.slice s.2.1 (p.threads.map fun l=>(zH V l).length).length s.2.2)],[]⟩,fun s Z=>((∀ l∈p.threads,(qA l V).length<=4096)/\∀ k,k<=p.threads.length->zbv ((p.threads.take k).map fun l=>(zH V l).length)<=4096)/\MxS w.heap.size Z L bP (p.threads.map fun l=>(zH V l).length) s.2.1 s.2.2 s.1.1 s.1.2.1 s.1.2.2/\s.1.1.map (fun z=>z.1.map (·.1))=p.threads.map (zH V)/\Bw w Z,?_,?_⟩
 ·refine⟨_,zc (za hS.f0) (i:=0) rfl,?_⟩;refine⟨_,zc (za (zb hbX fP)) (i:=3) (by simpa using h3),?_⟩;refine⟨Nat×(List TpR×OA×Nat)×OA×Nat,fun s=>⟨[(1,.slice qv V.length cv),(2,At0 L),(4,At0 (L+1)),(5,At0 (L+2)),(6,At0 (L+3)),(7,.slice s.2.2.1 ((p.threads.take s.1).map fun l=>(zH V l).length).length s.2.2.2),(8,i64 (zbv ((p.threads.take s.1).map fun l=>(zH V l).length):Nat)),(23,.slice p3 p.threads.length c3),(24,i64 p.threads.length),(25,i64 (s.1:Nat))],[]⟩,
   fun s Z=>(s.1<=p.threads.length/\(∀ l∈p.threads.take s.1,(qA l V).length<=4096)/\∀ k,k<=s.1->zbv ((p.threads.take k).map fun l=>(zH V l).length)<=4096)/\MxS w.heap.size Z L bP ((p.threads.take s.1).map fun l=>(zH V l).length) s.2.2.1 s.2.2.2 s.2.1.1 s.2.1.2.1 s.2.1.2.2/\s.2.1.1.map (fun z=>z.1.map (·.1))=(p.threads.take s.1).map (zH V)/\Bw w Z,fun s=>p.threads.length-s.1,(0,([],none,0),none,0),
   (cvE rfl rfl),⟨⟨UU _,fun l hl=>Gj hl (by simp),fun k hk=>by rw [Nat.le_zero.1 hk];exact (by decide:(1:Nat)<=4096)⟩,hS,rfl,hbX⟩,?_⟩
  clear hS hbX;rintro⟨k,⟨ts,pT,cT⟩,ps,cs⟩ Z ⟨⟨hk,hle,hall⟩,hS,hz,hbZ⟩;dsimp only at hk hle hall hS hz ⊢;have hts:ts.length=k:=by
   have:=Gd List.length hz;rw [QI,QI,Qr] at this;omega
  refine biE (fun hc=>?_) fun hc=>?_
  ·have hc:(k:Int)<(p.threads.length:Int):=dT hc;have hkl:k<p.threads.length:=by omega
   have hkx:k<xs.length:=by omega
   have hZs:=hbZ.size;obtain⟨l,hlk⟩:∃ l,p.threads[k]=l:=⟨_,rfl⟩;have hlm:l∈p.threads:=by rw [<- hlk];exact gM hkl
   have hQ:=hO.th l hlm;obtain⟨b3,o3,hp3,hb3,hat3⟩:=zdB (zc3.below (hbZ.mono hB)) hkx;have hB2:b3<Z.heap.size:=by omega
   have e3:some (Value.slice p3 p.threads.length c3)=some (Value.slice (some ⟨b3,o3,none⟩) p.threads.length c3):=by rw [hp3]
   subst hp3;refine⟨k,rfl,hkl,?_⟩;refine⟨zjR xs[k],by have:=zc (hat3 k hkx) (i:=0) (v:=zjR xs[k]) rfl;exact this,?_⟩;obtain⟨hrm,hrb⟩:=hxr _ (gM hkx);have hxm:xs[k].1=l:=by
    have:=Gd (fun l=>l[k]?) hxs;simp only [KR,gE hkx,gE hkl,QZ,KW] at this;rw [this,hlk]
   have hpt:(p.threads.take (k+1))=p.threads.take k++[l]:=by rw [tsg hkl,hlk]
   refine cmo (zqB (l:=xs[k].1) (vals:=V) ((hrm.below (hbZ.mono hB)).slr (by omega)) (hV.below hbZ) hv1 (by omega) (by rw [hxm];exact hQ) (hG.below hbZ) (fun hne a ha=>by have:=hrb hne a ha;omega)) ?_;rw [hVd,hxm];obtain⟨A,hA⟩:=nm (zbv ((p.threads.take k).map fun l=>(zH V l).length));have hpr0:=hall k (UR _);rintro e Y ⟨(⟨rk,pk,ck,hmle,rfl,hrk,ork,onk⟩ | ⟨hlong,rfl⟩),hbY⟩
   case inr =>
    have hSY:=hS.below hbY;rw [<- hA] at hpr0 ⊢;refine⟨((A*0:Nat):Int),(ze (by omega)).trans (by omega),?_⟩;refine brT ?_;refine brT ?_;refine zm k90 hSY.f1 (o:=0) (v := .slice none 0 0) rfl rfl (by show 0<1;decide) rfl fun Z1 fZ1 gZ1 sZ1=>?_;refine zm k4 ((gZ1.block (L+2) (hlt hSY.f2) (by simp)).trans hSY.f2) (o:=0) (v := .bool false) rfl rfl (by show 0<1;decide) rfl fun Z2 fZ2 gZ2 sZ2=>?_;refine⟨.slice none 0 0,zc (za ((gZ2.block (L+1) (hlt fZ1) (by simp)).trans fZ1)) (i:=0) rfl,.bool false,zc (za fZ2) (i:=0) rfl,.inr ⟨fun h=>?_,rfl⟩,?_⟩
    ·have:=h.1 l hlm;omega
    ·have hwY:=hbZ.trans (hbY.mono hZs);exact (hwY.trans (zk gZ1 hwY.size (by omega))).trans (zk gZ2 (by rw [sZ1];exact hwY.size) (by omega))
   have hrk:rk.map (·.1)=zH V l:=hrk;have hrkl:rk.length=(zH V l).length:=by rw [<- hrk,QI]
   have hpl:(zH V l).length<=4096:=by rw [QI];exact hmle
   have hSY:=hS.below hbY;have hA2:zbv ((p.threads.take (k+1)).map fun l=>(zH V l).length)=A*rk.length:=by
    rw [hpt,QL];show zbv ((p.threads.take k).map (fun l=>(zH V l).length)++[(zH V l).length])=_;rw [zlM,<- hrkl,hA]
   rw [<- hA] at hpr0 ⊢;obtain⟨nz,hnz⟩:∃ nz:TpR,nz=(rk,pk,ck):=⟨_,rfl⟩;have hen:[Value.slice pk rk.length ck]=tpE.enc nz:=by rw [hnz];rfl
   have hAr:A*rk.length<=4096*4096:=Ul hpr0 (by omega);refine⟨((A*rk.length:Nat):Int),by rw [<- QD];exact ze (by omega),?_⟩;refine brF ?_;refine biE (fun hbig=>?_) fun hbig=>?_
   ·have hbig:(4096:Int)<((A*rk.length:Nat):Int):=dT hbig;refine zm k90 hSY.f1 (o:=0) (v := .slice none 0 0) rfl rfl (by show 0<1;decide) rfl fun Z1 fZ1 gZ1 sZ1=>?_;refine zm k4 ((gZ1.block (L+2) (hlt hSY.f2) (by simp)).trans hSY.f2) (o:=0) (v := .bool false) rfl rfl (by show 0<1;decide) rfl fun Z2 fZ2 gZ2 sZ2=>?_;refine⟨.slice none 0 0,zc (za ((gZ2.block (L+1) (hlt fZ1) (by simp)).trans fZ1)) (i:=0) rfl,.bool false,zc (za fZ2) (i:=0) rfl,.inr ⟨fun h=>?_,rfl⟩,?_⟩
    ·have:=h.2.1 (k+1) hkl;rw [hA2] at this;omega
    ·have hwY:=hbZ.trans (hbY.mono hZs);exact (hwY.trans (zk gZ1 hwY.size (by omega))).trans (zk gZ2 (by rw [sZ1];exact hwY.size) (by omega))
   have hbig:¬ (4096:Int)<((A*rk.length:Nat):Int):=dF hbig;have hpr:A*rk.length<=4096:=by omega
   refine⟨_,zc (za hSY.f3) (i:=0) rfl,?_⟩;refine⟨⟨by decide,by decide,rfl⟩,tpE.enc nz,by rw [<- hen];rfl,?_⟩;have hb1:Bw Y (Y.alloc (.cells (tpE.enc nz).toArray 130)):=zba _ _;have hS1:=hSY.below hb1;have ork1:=ork.below hb1;have onk1:=fun x hx=>(onk x hx).same (Z:=Y.alloc (.cells (tpE.enc nz).toArray 130)) fun {α E T c q l} _ ho=>ho.below hb1;unfold zdX zax;show SatR _ _;refine zuQ hS1.rk (qK tpE nz) (by have:=hb1.size;have:=hbY.size;omega) (by omega) fun p' c' U oU gU hat1=>?_;have f0U:=qo hS1.f0 hS1.rk (by decide) gU;have f1U:=qo hS1.f1 hS1.rk (by decide) gU;have f2U:=qo hS1.f2 hS1.rk (by decide) gU;have f3U:=qo hS1.f3 hS1.rk (by decide) gU;refine zm zuM f3U (o:=0) (v := .slice p' (ts++[nz]).length c') rfl rfl (by show 0<1;decide) rfl fun S fS gS sS=>?_;have hbZY:=hbZ.trans (hbY.mono hZs);have sY:=hbY.size;have sb1:=hb1.size;have hbU:Bw w U:=(hbZY.trans (hb1.mono (by omega))).trans (qF hS1.rk (by omega) (UR _) gU);have hbS:Bw w S:=hbU.trans (zk gS hbU.size (by omega));have hSS:MxS w.heap.size S L bP ((p.threads.take k).map fun l=>(zH V l).length) ps cs (ts++[nz]) p' c':=by
    have kU:∀ {α:Type} {E:Enc α} {T cc:Nat} {r:OA} {ll:List α},T≠130->T≠129->OwnS E T w.heap.size (Y.alloc (.cells (tpE.enc nz).toArray 130)) r cc ll->OwnS E T w.heap.size S r cc ll:=fun {α E T cc r ll} h1 h2 h=>qj (jK h hS1.rk h1 gU) f3U h2 gS;have kB:∀ {b:Nat} {o:Obj},b≠L+3->U.heap[b]?=some o->S.heap[b]?=some o:=fun {b o} hb h=>(gS.block b (hlt h) (by simpa using hb)).trans h;have kP:∀ x:zdv,PthO w.heap.size (Y.alloc (.cells (tpE.enc nz).toArray 130)) x->PthO w.heap.size S x:=fun x hx=>hx.same fun {α E T c q l} ht ho=>kU (by rcases ht with rfl | rfl <;> decide) (by rcases ht with rfl | rfl <;> decide) ho;refine⟨kB (by omega) f0U,kB (by omega) f1U,kB (by omega) f2U,fS,kU (by decide) (by decide) hS1.own,qj oU f3U (by decide) gS,fun z hz=>?_,fun z hz=>?_⟩
    ·rcases QM.1 hz with hz | hz
     ·exact kU (by decide) (by decide) (hS1.n1 z hz)
     ·rw [Ky.1 hz,hnz];exact kU (by decide) (by decide) (ork1.lower hZs)
    ·rcases QM.1 hz with hz | hz
     ·exact fun x hx=>kP x (hS1.n2 z hz x hx)
     ·rw [Ky.1 hz,hnz];exact fun x hx=>kP x ((onk1 x hx).mono hZs)
   clear hS1 ork1 onk1 hSY hS oU gU hat1 f0U f1U f2U f3U fS gS;refine⟨⟨by decide,by decide,rfl⟩,zC.enc rk.length,rfl,?_⟩;have hb2:Bw S (S.alloc (.cells (zC.enc rk.length).toArray 3)):=zba _ _;have hS2:=hSS.below hb2;have sbS:=hbS.size;have sb2:=hb2.size;unfold zdX zax;show SatR _ _;refine zoC hS2.own (qK zC rk.length) (by omega) (by rw [QI,Qr];omega) fun p2' c2' V' oV gV hat2=>?_;rw [zad] at gV;have hSV:=hS2.size oV gV;have hzz:((p.threads.take k).map fun l=>(zH V l).length)++[rk.length]=(p.threads.take (k+1)).map fun l=>(zH V l).length:=by
    rw [hpt,QL,hrkl];rfl
   rw [hzz] at hSV ⊢;refine nxI (by omega) ?_;refine⟨(k+1,(ts++[nz],p',c'),p2',c2'),⟨.cons rfl (.cons rfl (.cons rfl (.cons rfl (.cons rfl (.cons rfl (.cons (by show _=some (i64 (zbv ((p.threads.take (k+1)).map fun l=>(zH V l).length):Nat));rw [hA2];rfl) (.cons rfl (.cons rfl (.cons rfl .nil))))))))),rfl⟩,⟨⟨hkl,fun l' hl'=>?_,fun k' hk'=>?_⟩,hSV,?_,hbS.trans ((hb2.mono sbS).trans (qF hS2.own (by omega) (UR _) gV))⟩,zdc (by omega)⟩
   ·have hl':l'∈p.threads.take (k+1):=hl';rw [hpt] at hl';rcases QM.1 hl' with h | h
    ·exact hle l' h
    ·rw [Ky.1 h];exact hmle
   ·have hk':k'<=k+1:=hk';by_cases e:k'=k+1
    ·rw [e,hA2];exact hpr
    ·exact hall k' (by omega)
   rw [hpt,QL,QL,hz,hnz];show _++[rk.map (·.1)]=_++[zH V l];rw [hrk]
  ·have hc:¬ (k:Int)<(p.threads.length:Int):=dF hc;obtain rfl:k=p.threads.length:=by omega
   rw [Qt] at hz hS hle ⊢;exact⟨((ts,pT,cT),ps,cs),(cvE rfl rfl),⟨hle,hall⟩,hS,hz,hbZ⟩
 rintro⟨⟨ts,pT,cT⟩,ps,cs⟩ X ⟨⟨hle,hall⟩,hS,hz,hbX⟩;dsimp only at hS hz ⊢;obtain⟨Q,hQ⟩:=nm (X.heap.size);refine⟨Unit,fun _=>⟨[(2,At0 L),(4,At0 (L+1)),(5,At0 (L+2)),(6,At0 (L+3)),(7,.slice ps (p.threads.map fun l=>(zH V l).length).length cs),(13,At0 Q)],[]⟩,fun _ Z=>MxS w.heap.size Z L bP (p.threads.map fun l=>(zH V l).length) ps cs ts pT cT/\Z.heap[Q]?=some (.cells #[.slice none 0 0] 90 (0,0))/\Z.heap.size=Q+1/\Bw w Z,?_,?_⟩
 ·refine⟨(),⟨.cons rfl (.cons rfl (.cons rfl (.cons rfl (.cons rfl (.cons (by rw [hQ];rfl) .nil))))),rfl⟩,hS.below ((zba X _)),by rw [hQ];exact zy X _,by rw [hQ];exact wz _ _,hbX.alloc hbX.size _⟩
 have hQw:w.heap.size+4<=Q:=by have:=hlt hS.f3;omega
 clear hS hbX hQ;clear X;rintro _ X ⟨hS,fQ,sX,hbX⟩;obtain⟨Ts,hTs⟩:=nm (p.threads.map (zH V));have hTl:Ts.length=p.threads.length:=by rw [hTs,QI]
 have htl:ts.length=p.threads.length:=by have:=Gd List.length hz;simpa using this
 have hsz:(p.threads.map fun l=>(zH V l).length)=Ts.map List.length:=by rw [hTs,UD];rfl
 rw [hsz] at hS ⊢;rw [<- hTs] at hz;have hsl1:(Ts.map List.length).length<=1000:=by rw [QI];omega
 have hsl2:∀ n∈Ts.map List.length,n<=1000000:=fun n hn=>by
  rw [hTs,UD] at hn;obtain⟨l,hl,rfl⟩:=UF.1 hn;have:=hle l hl;show ((qA l V).map j4).length<=_;rw [QI];omega
 have hmemT:∀ z∈ts,∀ x∈z.1,PathB p.init.length x.1:=fun z hz' x hx=>by
  have h1:z.1.map (·.1)∈Ts:=by rw [<- hz];exact UF.2 ⟨z,hz',rfl⟩
  rw [hTs] at h1;obtain⟨l,hl,he⟩:=UF.1 h1;exact hpb l hl x.1 (by rw [he];exact UF.2 ⟨x,hx,rfl⟩)
 refine cmo zpt ?_;rintro e V1 ⟨rfl,fo,sV1,hbV1⟩;have hI:=zsw fo (hS.own.row.below hbV1) (fun a ha=>by have:=(zx hS.own ha).2.1;omega) hsl1 hsl2;have hS1:=hS.below hbV1;have hb1:Bw w V1:=zst hbX hbV1;have hG0:Gath zhR 95 90 Q V1.heap.size Q V1 (NInM w.heap.size) [] (fun k=>k=Q\/k=L+1\/k=L+2) V1 :=
  ⟨UR _,.inl rfl,fun k hk=>by have:=hlt hS1.f3;omega,⟨none,0,zb hbV1 fQ,OwnS.nil,fun a h=>by cases h⟩,fun x hx=>(by cases hx),UW _ _⟩
 obtain⟨f,hf⟩:∃ f:List Nat->Option MixD,f=fun ds=>zg5 p.init (qE Ts ds):=⟨_,rfl⟩;have hmix:qi p V=(qa (Ts.map List.length)).filterMap f:=by rw [hf,hTs];rfl
 have hIter:=Gath.iter (σ:=List (List Nat)) (E:=zhR) (T:=95) (TS:=90) (B:=Q) (n0:=V1.heap.size) (L:=Q) (W:=V1) (NIn:=NInM w.heap.size) (f:=fun pre (ms:List MixX)=>ms.map (·.m)=pre.filterMap f/\ms.length<=pre.length/\∀ ds∈pre,(f ds).isSome=true) (zik _) (by omega);have hOkI:∀ h:(∀ ds∈qa (Ts.map List.length),(f ds).isSome=true),zc0 p V:=fun h=>⟨hle,hall,by rw [hf,hTs] at h;exact h⟩;have hOkE:zc0 p V->∀ ds∈qa (Ts.map List.length),(f ds).isSome=true:=fun h=>by rw [hf,hTs];exact h.2.2
 have hQL:L+2<Q:=by omega
 have h1Q:=hS1.f1;have h2Q:=hS1.f2;refine zdb (ze7 _) rfl (lb := #[At0 X.heap.size]) rfl rfl hI (UR _) (fun k hk=>⟨?_,rfl⟩) (fun pre vs W ⟨l,q,_,h,_⟩=>by rw [h];rfl) (by decide)
  (fun k=>k=Q\/k=L+1\/k=L+2) (fun pre F Y=>(F (L+1)/\F (L+2))/\∃ ms,(ms.map (·.m)=pre.filterMap f/\ms.length<=pre.length/\∀ ds∈pre,(f ds).isSome=true)/\Gath zhR 95 90 Q V1.heap.size Q V1 (NInM w.heap.size) ms F Y)
  (fun ex pre F Y=>(∀ k,F k->k<Y.heap.size)/\V1.heap.size<=Y.heap.size/\ex = .ret/\¬ zc0 p V/\Y.heap[L+1]?=some (.cells #[.slice none 0 0] 90 (0,0))/\Y.heap[L+2]?=some (.cells #[.bool false] 4 (0,0))/\Bw w Y) (fun k hk=>?_) ⟨fun s F A C ⟨h1,h2⟩ hs=>⟨h1,hIter.step s F A C h2 hs⟩,fun s F A k ⟨_,h2⟩ hk=>hIter.lt s F A k h2 hk⟩
  (fun ex=>⟨fun pre F A C ⟨g1,g2,g3,g4,g5,g6,g7⟩ hs=>⟨fun k hk=>nL (g1 k hk) hs.size,UI g2 hs.size,g3,g4,(hs.same _ (hlt g5) (.inl ⟨by omega,fun h=>h⟩)).trans g5,(hs.same _ (hlt g6) (.inl ⟨by omega,fun h=>h⟩)).trans g6,g7.trans ⟨hs.os,hs.tape,hs.output,hs.size,fun k hk=>hs.same k (by have:=g7.size;omega) (.inl ⟨by have:=hb1.size;omega,fun h=>h⟩)⟩⟩,fun pre F A k ⟨g1,_⟩ hk=>⟨g1 k hk,fun h=>h⟩⟩) ⟨⟨.inr (.inl rfl),.inr (.inr rfl)⟩,[],⟨rfl,UU _,fun ds h=>by cases h⟩,hG0⟩ ?_ ?_ ?_
 ·rcases hk with (rfl | ⟨a,ha,rfl⟩) | h
  ·omega
  ·have:=(zx hS.own ha).2.1;omega
  ·exact h.elim
 ·rcases hk with rfl | ⟨a,ha,rfl⟩
  ·omega
  ·obtain⟨_,_,cur,hc⟩:=zx hS.own ha;rintro (e | e | e)
   ·rw [e,fQ] at hc;simp at hc
   ·rw [e,hS.f1] at hc;simp at hc
   ·rw [e,hS.f2] at hc;simp at hc
 ·rintro yl pre ds vs F Y hyl hpre hJ0 ⟨l,qd,hlast,rfl,hsl,hcel⟩ hfy ⟨lo,hlo⟩;have hdx:ds=l:=by simpa using hlast
  subst hdx;refine⟨rfl,F,KeepsG.refl _ _,hJ0,?_⟩;rintro O Y2 hY2 ⟨hFL,ms,⟨hms,hml,hsm⟩,hG2⟩;have hslY:SlR zC Y2 qd ds:=by
   rw [hY2];refine je hsl fun a ha=>zj fun e=>?_;obtain⟨cur,hcur⟩:=hcel a ha;rw [e,hlo] at hcur
   cases hcur
  obtain⟨hdl,hdlt⟩:=za1 (hpre.subset (JN _ (Ky.2 rfl)));have hdm:ds∈qa (Ts.map List.length):=hpre.subset (JN _ (Ky.2 rfl));rw [QI] at hdl;have hY2s:=hG2.size;have old:∀ {k:Nat} {ob:Obj},k<Q->V1.heap[k]?=some ob->Y2.heap[k]?=some ob:=fun {k ob} hk h=>(hG2.old.block k hk).trans h;have g0:=old (by omega) hS1.f0;have g3:=old (by omega) hS1.f3;have kR:∀ {α:Type} {E:Enc α} {T cc:Nat} {r:OA} {ll:List α},T≠90->OwnS E T w.heap.size X r cc ll->OwnS E T w.heap.size Y2 r cc ll:=fun {α E T cc r ll} hT h=>h.same fun a ha=>by
   have hq:a.block≠Q:=fun e=>by
    obtain⟨_,_,cur,hc⟩:=zx h ha;rw [e,fQ] at hc;simp at hc;exact hT hc.2.symm
   have:=(zx h ha).2.1;exact (hG2.old.block _ (by omega)).trans (hbV1.block _ this)
  have rkY:=kR (by decide) hS.rk;have n1Y:=fun z hz=>kR (by decide) (hS.n1 z hz);have n2Y:∀ z∈ts,∀ x∈z.1,PthO w.heap.size Y2 x:=fun z hz x hx=>(hS.n2 z hz x hx).same fun {α E T c q l} ht ho=>kR (by rcases ht with rfl | rfl <;> decide) ho;have fPY:Y2.heap[bP]?=some (.cells pc.toArray 29 (0,0)):=old (by omega) ((hb1.block bP hbP).trans fP);have hbwY:Bw w Y2:=hb1.trans (hG2.old.mono (by omega));refine⟨Nat×List zdv×OA×Nat,fun s=>⟨[(2,At0 L),(4,At0 (L+1)),(5,At0 (L+2)),(6,At0 (L+3)),(13,At0 Q),(15,.slice s.2.2.1 s.2.1.length s.2.2.2),(58,.slice qd ds.length ds.length),(59,i64 ds.length),(60,i64 (s.1:Nat))],[]⟩,
   fun s Z=>s.1<=ds.length/\OwnS jT 138 Y2.heap.size Z s.2.2.1 s.2.2.2 s.2.1/\s.2.1.map (·.1)=qE (Ts.take s.1) (ds.take s.1)/\s.2.1.length=s.1/\(∀ x∈s.2.1,∃ z∈ts,x∈z.1)/\Bw Y2 Z,fun s=>ds.length-s.1,(0,[],none,0),
   (cvE rfl rfl),⟨UU _,OwnS.nil,by simp [qE],rfl,fun x hx=>(by cases hx),UW _ _⟩,?_⟩
  rintro⟨k,Cs,pC,cC⟩ Z ⟨hk,oC,hCs,hCl,hCm,hbZ⟩;dsimp only at hk oC hCs hCl hCm ⊢;have hZs:=hbZ.size;refine biE (fun hc=>?_) fun hc=>?_
  ·have hc:(k:Int)<(ds.length:Int):=dT hc;have hkl:k<ds.length:=by omega
   have hkt:k<ts.length:=by omega
   obtain⟨z,hzk⟩:∃ z,ts[k]=z:=⟨_,rfl⟩;have hzm:z∈ts:=by rw [<- hzk];exact gM hkt
   have hkT:k<Ts.length:=by omega
   have hzT:Ts[k]=z.1.map (·.1):=by
    have h1:Ts[k]?=some (z.1.map (·.1)):=(by rw [<- hz,KR,gE hkt,hzk];rfl);rw [gE hkT] at h1;exact Ua h1
   obtain⟨d,hd⟩:∃ d,ds[k]=d:=⟨_,rfl⟩;have hdz:d<z.1.length:=by
    have:=hdlt k (Ts[k].length) d (by rw [KR,gE hkT];rfl) (by rw [gE hkl,hd]);rw [hzT,QI] at this;exact this
   obtain⟨x,hx⟩:∃ x,z.1[d]=x:=⟨_,rfl⟩;have hxm:x∈z.1:=by rw [<- hx];exact gM hdz
   have hpick:qE (Ts.take (k+1)) (ds.take (k+1))=qE (Ts.take k) (ds.take k)++[x.1]:=by
    rw [tsg hkT,tsg hkl,hd,hzT,zgJ _ _ _ _ (by rw [Qr,Qr];omega),KR,gE hdz,hx];rfl
   obtain⟨bD,oD,hpD,hlD,hatD⟩:=(hslY.below hbZ).at hkl;obtain⟨bT,oT,hpT,hlT,hatT⟩:=(rkY.below hbZ).row.at hkt;obtain⟨bz,oz,hpz,hlz,hatz⟩:=((n1Y z hzm).below hbZ).row.at hdz;subst hpD;subst hpT;refine⟨k,rfl,hkl,?_⟩;refine⟨i64 d,by have:=zc (hatD k hkl) (i:=0) (v:=i64 d) (by rw [hd];rfl);exact this,?_⟩;refine⟨_,zc (za (zb hbZ g3)) (i:=0) rfl,?_⟩;refine⟨k,rfl,hkt,?_⟩;refine⟨.slice z.2.1 z.1.length z.2.2,by have:=zc (hatT k hkt) (i:=0) (v := .slice z.2.1 z.1.length z.2.2) (by rw [hzk];rfl);exact this,?_⟩;rw [hpz];refine⟨d,rfl,hdz,?_⟩;refine⟨jT.enc x,jT.len x,by rw [<- hx];exact hatz d hdz,hlz,?_⟩;refine⟨⟨by decide,by decide,rfl⟩,jT.enc x,zaZ (jT.len x) rfl,?_⟩;have hb2:Bw Z (Z.alloc (.cells (jT.enc x).toArray 138)):=zba _ _;have sb2:=hb2.size;unfold zdX zax;show SatR _ _;refine zuS (oC.below hb2) (qK jT x) (by omega) (by omega) fun p' c' U oU gU hat1=>?_;refine nxI (by omega) ?_;refine⟨(k+1,Cs++[x],p',c'),(cvE rfl rfl),⟨hkl,oU,by rw [QL,hCs,hpick];rfl,by rw [lap,hCl];rfl,fun y hy=>?_,hbZ.trans ((hb2.mono hZs).trans (qF (oC.below hb2) (by omega) (UR _) gU))⟩,zdc (by omega)⟩;rcases QM.1 hy with hy | hy
   ·exact hCm y hy
   ·rw [Ky.1 hy];exact⟨z,hzm,hxm⟩
  have hc:¬ (k:Int)<(ds.length:Int):=dF hc;obtain rfl:k=ds.length:=by omega
  rw [Qt,JF (by omega)] at hCs;obtain⟨q1,y1,q2,y2,q3,y3,q4,y4,hvs,_⟩:=hP0.v.h;have hpc1:pc[1]?=some (.slice q1 p.init.length y1):=by rw [hvs,<- hil];rfl
  have hZw:w.heap.size<=Z.heap.size:=by have:=hbwY.size;omega
  refine⟨_,zc (za (zb hbZ g0)) (i:=0) rfl,?_⟩;refine cmo (zmm (zb hbZ fPY) hpc1 h2 ((hinit.below (((zst hbwY hbZ)).mono hB)).slr (by omega)) hi6 oC.row (fun x hx=>?_) (fun x hx=>?_) (by omega)) ?_
  ·obtain⟨z,hz1,hx1⟩:=hCm x hx;obtain⟨o1,o2,o3,o4⟩:=n2Y z hz1 x hx1;refine⟨fun a ha=>?_,(o1.below hbZ).row,(o2.below hbZ).row,(o3.below hbZ).row,(o4.below hbZ).row⟩;rcases ha with ha | ha | ha
   ·exact (zx (o2.below hbZ) ha).2.1
   ·exact (zx (o3.below hbZ) ha).2.1
   ·exact (zx (o4.below hbZ) ha).2.1
  ·obtain⟨z,hz1,hx1⟩:=hCm x hx;exact hmemT z hz1 x hx1
  rintro e U ⟨⟨vs,hres⟩,hbU⟩;have hfd0:f ds=zg5 p.init (Cs.map (·.1)):=by rw [hf,hCs]
  cases hmx:zg5 p.init (Cs.map (·.1)) with
  | none =>
   rw [hmx] at hres hfd0;obtain⟨rfl,hvz⟩:=hres;have hvl:vs.length=336:=by rw [hvz];exact jI
   have hv1:vs.all Value.oneCell'=true:=by rw [hvz];kernel_rfl
   have hUs:=hbU.size;refine zo (X:=U) (v := .agg vs.toArray) k95 hvl jI hv1 fun V' hbV fV sV=>?_;refine brT ?_;have hbY2V:Bw Y2 V':=(hbZ.trans (hbU.mono hZs)).trans (hbV.mono (by omega));have hV2:=hbY2V.size;have g1:V'.heap[L+1]?=_:=zb hbY2V (old (by omega) hS1.f1);have g2:V'.heap[L+2]?=_:=zb hbY2V (old (by omega) hS1.f2);refine zm k90 g1 (o:=0) (v := .slice none 0 0) rfl rfl (by show 0<1;decide) rfl fun Z1 fZ1 gZ1 sZ1=>?_;refine zm k4 ((gZ1.block (L+2) (hlt g2) (by simp)).trans g2) (o:=0) (v := .bool false) rfl rfl (by show 0<1;decide) rfl fun Z2 fZ2 gZ2 sZ2=>?_;have hFlt:=hG2.lt;have b2:Bw w Z2:=(((zst hbwY hbY2V)).trans (zk gZ1 (by have:=hbwY.size;omega) (by omega))).trans (zk gZ2 (by have:=hbwY.size;omega) (by omega));refine⟨F,⟨fun k hk=>by have:=hFlt k hk;omega,by omega,rfl,fun h=>?_,(gZ2.block (L+1) (hlt fZ1) (by simp)).trans fZ1,fZ2,b2⟩,(((KeepsG.below hbY2V fun k h => .inl h):KeepsG F F Y2 V').trans (KeepsG.grown (F:=F) gZ1 hFL.1)).trans (KeepsG.grown (F:=F) gZ2 hFL.2)⟩;have:=hOkE h ds hdm;rw [hfd0] at this
   cases this
  | some mx =>
  rw [hmx] at hres;have hfd:f ds=some mx:=by rw [hfd0,hmx]
  obtain⟨rfl,x1,x2,x3,x4,y1,y2,y3,y4,xs',ys',hvs',m1,m2,m3,m4,m5,m6,m7,m8⟩:=hres;obtain⟨nx,hnx⟩:∃ nx:MixX,nx=⟨mx,x1,y1,x2,y2,x3,y3,x4,y4,xs',ys'⟩:=⟨_,rfl⟩;have hen:vs=zhR.enc nx:=by rw [hvs',hnx];rfl
  have hvl:vs.length=336:=by rw [hen];exact zhR.len nx
  have hv1:vs.all Value.oneCell'=true:=by rw [hen];exact zkx nx
  have hUs:=hbU.size;refine zo (X:=U) (v := .agg vs.toArray) k95 hvl jI hv1 fun V' hbV fV sV=>?_;have fV:V'.heap[U.heap.size]?=some (.cells vs.toArray 95 (0,0)):=fV;refine brF ?_;have hbY2V:Bw Y2 V':=(hbZ.trans (hbU.mono hZs)).trans (hbV.mono (by omega));obtain⟨pr,cr,h4,h5,h6⟩:=hG2.row;refine⟨_,zc (za (zb hbY2V h4)) (i:=0) rfl,?_⟩;refine⟨vs,hvl,za fV,hlt fV,?_⟩;refine⟨⟨by decide,by decide,jI⟩,zhR.enc nx,by rw [<- hen];exact zaZ hvl jI,?_⟩;have hpl:pre.length<1000000000:=by
   obtain⟨t,ht⟩:=hpre;have h7:(pre++[ds]++t).length=z6 (Ts.map List.length).reverse:=by
    rw [ht];unfold qa;rw [QI,KS]
   have h8:z6 (Ts.map List.length).reverse<=4096:=by
    have h9:=hall p.threads.length (UR _);rw [Qt,hsz] at h9;rw [zfg];exact h9
   simp only [lap,Qp] at h7;omega
  have hnw:∀ (G:Nat->Prop) (S:Wd),(∀ k,Y2.heap.size<=k->k<V'.heap.size->S.heap[k]?=V'.heap[k]?)->(∀ k,Y2.heap.size<=k->k<V'.heap.size->G k)->NInM w.heap.size G S nx:=by
   intro G S hs hg;have kp:∀ {α:Type} {E:Enc α} {T cc:Nat} {r:OA} {ll:List α},OwnS E T Z.heap.size U r cc ll->RowIn E T w.heap.size G S r cc ll:=fun {α E T cc r ll} h=>by
    have ol:∀ a,r=some a->Y2.heap.size<=a.block/\a.block<V'.heap.size:=fun a ha=>⟨by have:=(zx h ha).1;omega,by have:=(zx h ha).2.1;omega⟩;exact⟨OwnS.lower ((h.below hbV).same fun a ha=>hs _ (ol a ha).1 (ol a ha).2) hZw,fun a ha=>hg _ (ol a ha).1 (ol a ha).2⟩
   rw [hnx];exact⟨m3,m6,kp m1,kp m2,kp m4,fun y hy=>kp (m5 y hy),kp m7,fun y hy=>kp (m8 y hy)⟩
  obtain⟨v,Y5,hrun,S,hrun2,F',hG',hK',hFF'⟩:=hG2.step (P:=PG) (ty:=90) (cap1:=1) (zik _) (by decide) Tryz.underlying90 k95 rfl rfl (by show _=336;exact jI) k90 rfl (by omega) (UR _) hbY2V nx (by omega) (by show (ms.length+1)*2488<=_;omega) hnw pr cr h4;unfold zdX zax;refine SatR.mk hrun ?_;refine SatR.mk hrun2 ?_;refine⟨F',⟨⟨hFF' _ hFL.1,hFF' _ hFL.2⟩,_,⟨?_,by rw [lap,lap];show ms.length+1<=pre.length+1;omega,fun d hd=>?_⟩,hG'⟩,hK'⟩
  case refine_2 =>
   rcases QM.1 hd with h | h
   ·exact hsm d h
   ·rw [Ky.1 h,hfd];rfl
  rw [QL,List.filterMap_append,hms];show _++[nx.m]=_++List.filterMap f [ds];rw [show List.filterMap f [ds]=[mx] by rw [List.filterMap_cons,hfd];rfl,hnx]
 ·rintro D F Y hD hfD ⟨hFL,ms,⟨hms,hml,hsm⟩,hG⟩ hdef;obtain⟨pr,cr,h4,h5,h6⟩:=hG.row;have hYs:=hG.size;have old:∀ {k:Nat} {ob:Obj},k<Q->V1.heap[k]?=some ob->Y.heap[k]?=some ob:=fun {k ob} hk h=>(hG.old.block k hk).trans h;have g1:=old (by omega) hS1.f1;have g2:=old (by omega) hS1.f2;refine⟨_,zc (za h4) (i:=0) rfl,?_⟩;refine zm k90 g1 (o:=0) (v := .slice pr ms.length cr) rfl rfl (by show 0<1;decide) rfl fun Z1 fZ1 gZ1 sZ1=>?_;refine zm k4 ((gZ1.block (L+2) (hlt g2) (by simp)).trans g2) (o:=0) (v := .bool true) rfl rfl (by show 0<1;decide) rfl fun Z2 fZ2 gZ2 sZ2=>?_;have k2:∀ k,k<Y.heap.size->k≠L+1->k≠L+2->Z2.heap[k]?=Y.heap[k]?:=fun k hk n1 n2=>(gZ2.block k (by rw [sZ1];exact hk) (by simpa using n2)).trans (gZ1.block k hk (by simpa using n1));refine⟨_,rfl,(k2 D (hlt hdef) (by omega) (by omega)).trans hdef,?_⟩;have f2':=(gZ2.block (L+1) (hlt fZ1) (by simp)).trans fZ1;have kp:∀ a:Addr,a.block≠L+1->a.block≠L+2->F a.block->a.block<Y.heap.size->(Z2.putObj D (.deferred none)).heap[a.block]?=Y.heap[a.block]?:=fun a n1 n2 h2 h3=>(zj fun e=>by rw [<- e] at hfD;exact hfD h2).trans (k2 _ h3 n1 n2);have hwY:=hb1.trans (hG.old.mono (by omega));have b2:=(hwY.trans (zk gZ1 hwY.size (by omega))).trans (zk gZ2 (by have:=hwY.size;omega) (by omega));have ne:∀ {α:Type} {E:Enc α} {T B' cc:Nat} {r:OA} {ll:List α},T≠90->T≠4->OwnS E T B' Y r cc ll->∀ a,r=some a->a.block≠L+1/\a.block≠L+2:=fun {α E T B' cc r ll} t1 t2 h a ha=>by
   obtain⟨_,_,cur,hc⟩:=zx h ha;refine⟨fun e=>?_,fun e=>?_⟩
   ·rw [e,g1] at hc;simp at hc;exact t1 hc.2.symm
   ·rw [e,g2] at hc;simp at hc;exact t2 hc.2.symm
  refine⟨.slice pr ms.length cr,zc (za ((zj (by omega)).trans f2')) (i:=0) rfl,.bool true,zc (za ((zj (by omega)).trans fZ2)) (i:=0) rfl,.inl ⟨hOkI hsm,ms,pr,cr,rfl,by rw [hms,hmix],?_,fun x hx=>?_⟩,q8 b2 (by omega) _⟩
  ·exact OwnS.lower (h5.same fun a ha=>kp a (ne (by decide) (by decide) h5 a ha).1 (ne (by decide) (by decide) h5 a ha).2 (h6 a ha) (zx h5 ha).2.1) (by omega)
  ·exact (hG.nest x hx).same fun {α E T c q l} t1 t2 t3 hr=>⟨hr.own.same fun a ha=>kp a (ne t2 t3 hr.own a ha).1 (ne t2 t3 hr.own a ha).2 (hr.inF a ha) (zx hr.own ha).2.1,fun a ha=>(zx hr.own ha).1⟩
 ·rintro D ex pre F Y hD hfD hpre ⟨g1,g2,rfl,g4,g5,g6,g7⟩ hdef;refine⟨_,rfl,hdef,?_⟩;refine⟨.slice none 0 0,zc (za ((zj (by have:=hlt hS1.f3;omega)).trans g5)) (i:=0) rfl,.bool false,zc (za ((zj (by have:=hlt hS1.f3;omega)).trans g6)) (i:=0) rfl,.inr ⟨g4,rfl⟩,q8 g7 (by have:=hb1.size;omega) _⟩
end
def qN (m:MixD):List ExD:=if jv m 1=0 then [] else zds m
abbrev jd (p:Prg) (V:List UInt8):List ExD:=(qi p V).flatMap qN
def zdx (p:Prg) (V:List UInt8) (most:Nat):Prop:=zdz p=some V/\zc0 p V/\((qi p V).map fun m=>jv m 20001).sum<=most
structure MixC (m:MixD):Prop where
 rl:m.rs.length<=48
 wl:m.wr.length<=6
 rs:∀ r∈m.rs,r.1<48/\r.2.length<=1000/\∀ s∈r.2,s<48
 wr:∀ w∈m.wr,w.length<=48
structure CandB (p:Prg) (V:List UInt8):Prop where
 pb:∀ l∈p.threads,∀ P∈zH V l,PathB p.init.length P
 ml:zc0 p V->(qi p V).length<=5000
 mc:zc0 p V->∀ m∈qi p V,MixC m
 mb:zc0 p V->((qi p V).map fun m=>jv m 20001).sum<=20000->∀ m∈qi p V,jv m 1≠0->MixB m
 len:zc0 p V->((qi p V).map fun m=>jv m 20001).sum<=20000->(jd p V).length<=30000
theorem zk5 {lim:Nat}:∀ (fs:List (List Nat)) (n:Nat),n<=lim->∀ k,zeX lim fs n=some k->k<=lim
 | [],n,h,k,e=>by cases e;exact h
 | f::fs,n,h,k,e=>by
  unfold zeX at e
  split at e
  ·cases e
  ·exact zk5 fs _ (Qy ..) k e
theorem zk6 {lim len:Nat}:∀ (m k n:Nat),n<=lim->zf1 lim len m k n<=lim
 | 0,k,n,h=>h
 | m+1,k,n,h=>by
  unfold zf1
  split
  ·exact zk6 m _ _ (Qy ..)
  ·exact h
theorem zk4 {lim:Nat}:∀ (ws:List (List Nat)) (n:Nat),n<=lim->zf0 lim ws n<=lim
 | [],n,h=>h
 | w::ws,n,h=>zk4 ws _ (zk6 _ _ _ h)
theorem zqh {lim:Nat} (m:MixD) (h:1<=lim):jv m lim<=lim:=by
 unfold jv
 split
 ·exact UU _
 ·rename_i n e;exact zk4 _ _ (zk5 _ _ h _ e)
theorem zjN (ths:List (List InsD)):∀ (n:Nat) (vals V:List UInt8),1<=vals.length/\jl vals=vals->zhZ ths n vals=some V->1<=V.length/\jl V=V
 | 0,vals,V,h,e=>by cases e
 | n+1,vals,V,h,e=>by
  unfold zhZ at e
  split at e
  ·cases e
  ·split at e
   ·cases e
   ·split at e
    ·cases e;exact h
    ·refine zjN ths n _ V ⟨?_,zcR _⟩ e;have:=ziv ths h.2;show 1<=(zbx ths vals).length;omega
theorem zlq {p:Prg} {V:List UInt8} (hO:OkG p) (h:zdz p=some V):1<=V.length/\jl V=V :=
 zjN _ _ _ _ ⟨ziA hO.i1,zcR _⟩ h
theorem zo1 {l:List Nat} (k:Nat):(l.take k).sum<=l.sum:=by
 have:l.sum=(l.take k).sum+(l.drop k).sum:=by rw [<- List.sum_append,JP]
 omega
theorem zr6 {m:MixD} {xs ys:List zaP} {lim:Nat} (h1:xs.map (·.1)=m.rs.map (·.2)) (h2:ys.map (·.1)=m.wr):zqi lim (xs.map (·.1)) (ys.map (·.1))=jv m lim:=by
 rw [h1,h2];rfl
section
variable {w:Wd} {B most:Nat} {pc:List Value} {p:Prg}
theorem zlk (hB:B<=w.heap.size) (hP:PrgX B w pc p) (hG:GlobE w) (hok:zdf p=true) (hm20:most<=20000) (hCB:∀ V,jl V=V->CandB p V) :
  Calls PG 12 #[.agg pc.toArray,i64 most] w fun e w'=>((∃ V,zdx p V most/\∃ (xs:List zbV) (q:OA) (c:Nat),e = .returned (.tuple #[.slice q xs.length c,i64 0])/\xs.map (·.1)=jd p V/\OwnS exE 46 w.heap.size w' q c xs/\∀ x∈xs,OwnS evE 49 w.heap.size w' x.2.1 x.2.2 x.1.ev)\/((∀ V,¬ zdx p V most)/\e = .returned (.tuple #[.slice none 0 0,i64 5])))/\Bw w w':=by
 have hO:=zga hok;refine qk 74 [.agg pc.toArray,i64 most] (.c .p (.s .p (.s .p (.s .p (.c .p (.s .p (.s .p (.c .p (.c .p (.c .p .p)))))))))) Tryz.func12 ?_;obtain⟨L,hL⟩:=nm (w.heap.size);have hpc:=hP.v.size;refine⟨Unit,fun _=>⟨[(1,i64 most),(2,At0 L)],[]⟩,fun _ X=>X.heap[L]?=some (.cells pc.toArray 29 (0,0))/\L<X.heap.size/\Bw w X,⟨(),⟨.cons rfl (.cons (by rw [hL];rfl) .nil),rfl⟩,by rw [hL];exact zy w _,by rw [hL];exact hlt (zy w _),(zba w _)⟩,?_⟩;rintro _ X ⟨f0,sX,hbX⟩;refine brN (Uc (by omega)) (brN (Uc (by omega)) ⟨pc,hpc,za f0,hlt f0,cmo (zjD (UI hB hbX.size) (hP.v.below (hbX.mono hB)) (hG.c.below hbX)) ?_⟩);rintro e Y ⟨m,rfl,hm,hbY⟩;have hm0:m=0:=hm.2 hok;subst hm0;refine brF ?_;have hwY:=zst hbX hbY;have f0:=zb hbY f0;refine⟨pc,hpc,za f0,hlt f0,cmo (zoF (UI hB hwY.size) (hP.below (hwY.mono hB)) (hG.below hwY) hok) ?_⟩;rintro e Z ⟨(⟨V,qv,cv,hval,rfl,oV⟩ | ⟨hval,rfl⟩),hbZ⟩
 case inr =>
  refine brT ⟨.inr ⟨fun V h=>?_,rfl⟩,(zst hwY hbZ)⟩;have:=h.1;rw [hval] at this
  cases this
 refine brF ?_;obtain⟨hv1,hVd⟩:=zlq hO hval;have hQ:=hCB V hVd;have uniq:∀ V',zdx p V' most->V'=V:=fun V' h=>by
  have:=h.1;rw [hval] at this;exact (Ua this).symm
 have hwZ:=zst hwY hbZ;have f0:=zb hbZ f0;clear hbX hbY hwY;obtain⟨V0,hV0⟩:=nm (V);refine⟨Bool×List MixX×OA×Nat,fun s=>⟨[(1,i64 most),(8,.slice s.2.2.1 s.2.1.length s.2.2.2),(9,.bool s.1)],[]⟩,fun s U=>((s.1=true/\zc0 p V/\s.2.1.map (·.m)=qi p V/\OwnS zhR 95 w.heap.size U s.2.2.1 s.2.2.2 s.2.1/\∀ x∈s.2.1,NInM w.heap.size (fun k=>w.heap.size<=k) U x)\/(s.1=false/\¬ zc0 p V))/\Bw w U,?_,?_⟩
 ·refine cmo (zpz f0 (UI hB hwZ.size) (hP.below (hwZ.mono hB)) hO (hG.below hwZ) oV.row hv1 hVd hQ.pb) ?_;rintro e U ⟨(⟨hmo,ms,q,c,rfl,hms,oM,nM⟩ | ⟨hmo,rfl⟩),hbU⟩
  case inr=>exact⟨(false,[],none,0),(cvE rfl rfl),.inr ⟨rfl,hmo⟩,(zst hwZ hbU)⟩
  exact⟨(true,ms,q,c),(cvE rfl rfl),.inl ⟨rfl,hmo,hms,oM.lower hwZ.size,fun x hx=>(nM x hx).lower hwZ.size⟩,(zst hwZ hbU)⟩
 clear oV hbZ hwZ f0;rintro⟨ok,ms,q,c⟩ X ⟨hor,hbX⟩;dsimp only at hor ⊢;rcases hor with ⟨rfl,hmo,hms,oM,nM⟩ | ⟨rfl,hmo⟩
 case inr =>
  exact brT ⟨.inr ⟨fun V' h=>hmo (by rw [<- uniq V' h];exact h.2.1),rfl⟩,hbX⟩
 refine brF ?_;have hml:ms.length<=5000:=by have:=hQ.ml hmo;rw [<- hms,QI] at this;exact this
 have hmc:∀ x∈ms,MixC x.m:=fun x hx=>hQ.mc hmo x.m (by rw [<- hms];exact UF.2 ⟨x,hx,rfl⟩);have hsumE:((qi p V).map fun m=>jv m 20001).sum=(ms.map fun x=>jv x.m 20001).sum:=by
  rw [<- hms,UD];rfl
 have htake:∀ k,((ms.take k).map fun x=>jv x.m 20001).sum<=(ms.map fun x=>jv x.m 20001).sum:=fun k=>by
  have:=zo1 (l:=ms.map fun x=>jv x.m 20001) k;rw [<- List.map_take] at this;exact this
 obtain⟨tot,htot⟩:=nm ((ms.map fun x=>jv x.m 20001).sum);have cnt:∀ {Z:Wd} {k lim:Nat} (hk:k<ms.length),OwnS zhR 95 w.heap.size Z q c ms->(∀ x∈ms,NInM w.heap.size (fun k=>w.heap.size<=k) Z x)->1<=lim->lim<=100000->∃ b o,q=some ⟨b,o,none⟩/\Calls PG 31 #[.pointer (some ⟨b,o+k*336,none⟩),i64 lim] Z fun e w'=>e = .returned (i64 (jv ms[k].m lim:Nat))/\Z=w':=fun {Z k lim} hk oM nM h1 h2=>by
  obtain⟨b,o,hq,hb,hat⟩:=oM.row.at hk;have hx:=nM ms[k] (gM hk);have hb1:=hmc ms[k] (gM hk);have hxl:ms[k].xs.length=ms[k].m.rs.length:=by have:=Gd List.length hx.e2;simpa using this
  have hyl:ms[k].ys.length=ms[k].m.wr.length:=by have:=Gd List.length hx.e3;simpa using this
  refine⟨b,o,hq,?_⟩;have:=zrX (lim:=lim) (r := .slice ms[k].p1 ms[k].m.rs.length ms[k].c1) (hat k hk) hx.r2.own.row hx.r3.own.row (fun y hy=>?_) (fun y hy=>?_) (by have:=hb1.rl;omega) (by have:=hb1.wl;omega) h1 h2
  ·rw [zr6 hx.e2 hx.e3] at this;exact this
  ·have h3:y.1∈ms[k].m.rs.map (·.2):=by rw [<- hx.e2];exact UF.2 ⟨y,hy,rfl⟩
   obtain⟨r,hr,he⟩:=UF.1 h3;rw [<- he];exact (hb1.rs r hr).2.1
  ·have h3:y.1∈ms[k].m.wr:=by rw [<- hx.e3];exact UF.2 ⟨y,hy,rfl⟩
   have:=hb1.wr _ h3;omega
 refine⟨Unit,fun _=>⟨[(8,.slice q ms.length c),(10,i64 tot)],[]⟩,fun _ Z=>tot<=most/\X=Z,?_,?_⟩
 ·refine⟨Nat,fun k=>⟨[(1,i64 most),(8,.slice q ms.length c),(10,i64 (((ms.take k).map fun x=>jv x.m 20001).sum:Nat)),(40,i64 ms.length),(41,i64 (k:Nat))],[]⟩,
   fun k Z=>(k<=ms.length/\((ms.take k).map fun x=>jv x.m 20001).sum<=most)/\X=Z,fun k=>ms.length-k,0,(cvE rfl rfl),⟨⟨UU _,UU _⟩,rfl⟩,?_⟩
  rintro k _ ⟨⟨hk,hsk⟩,rfl⟩;dsimp only;refine biE (fun hc=>?_) fun hc=>?_
  ·have hc:(k:Int)<(ms.length:Int):=dT hc;have hkl:k<ms.length:=by omega
   obtain⟨b,o,hq,hcall⟩:=cnt (lim:=20001) hkl oM nM (by decide) (by decide);have htk:((ms.take (k+1)).map fun x=>jv x.m 20001).sum=((ms.take k).map fun x=>jv x.m 20001).sum+jv ms[k].m 20001:=by
    rw [tsg hkl,QL,List.sum_append];show _+(jv ms[k].m 20001+0)=_;rw [UH]
   have h1:jv ms[k].m 20001<=20001:=zqh _ (by decide);subst hq;refine⟨k,rfl,hkl,cmo hcall ?_⟩;rintro e _ ⟨rfl,rfl⟩;refine⟨((((ms.take (k+1)).map fun x=>jv x.m 20001).sum:Nat):Int),?_,?_⟩
   ·rw [htk,Int.natCast_add];exact ze (by omega)
   refine biE (fun hbig=>?_) fun hbig=>?_
   ·have hbig:(most:Int)<((((ms.take (k+1)).map fun x=>jv x.m 20001).sum:Nat):Int):=dT hbig;refine⟨.inr ⟨fun V' h=>?_,rfl⟩,hbX⟩;have h2:=uniq V' h;subst h2;have h3:=h.2.2;rw [hsumE] at h3;have:=htake (k+1);omega
   have hbig:¬ (most:Int)<((((ms.take (k+1)).map fun x=>jv x.m 20001).sum:Nat):Int):=dF hbig;exact nxI (by omega) ⟨k+1,(cvE rfl rfl),⟨⟨hkl,by omega⟩,rfl⟩,zdc (by omega)⟩
  ·have hc:¬ (k:Int)<(ms.length:Int):=dF hc;obtain rfl:k=ms.length:=by omega
   rw [Qt,<- htot] at hsk ⊢;exact⟨(),(cvE rfl rfl),hsk,rfl⟩
 rintro _ _ ⟨htm,rfl⟩;have hCO:zdx p V most:=⟨hval,hmo,by rw [hsumE,<- htot];exact htm⟩;have hsm:((qi p V).map fun m=>jv m 20001).sum<=20000:=UI hCO.2.2 hm20;have hXs:=hbX.size;refine⟨OA×Nat,fun s=>⟨[(8,.slice q ms.length c),(12,.slice s.1 0 s.2)],[]⟩,fun s Z=>OwnS exE 46 X.heap.size Z s.1 s.2 []/\Bw X Z,?_,?_⟩
 ·exact zdh (E:=exE) Tryz.underlying30 k46 rfl (by show _=333;exact jx) rfl tot (by show 2416*tot<=_;omega) (by unfold maxLen;omega) fun Z oZ hbZ sZ=>⟨(some ⟨X.heap.size,0,none⟩,tot),(cvE rfl rfl),oZ,hbZ⟩
 rintro⟨p0,c0⟩ Y ⟨oY,hbY⟩;dsimp only at oY ⊢;refine⟨List zbV×OA×Nat,fun s=>⟨[(12,.slice s.2.1 s.1.length s.2.2)],[]⟩,fun s Z=>s.1.map (·.1)=jd p V/\OwnS exE 46 X.heap.size Z s.2.1 s.2.2 s.1/\(∀ x∈s.1,OwnS evE 49 X.heap.size Z x.2.1 x.2.2 x.1.ev)/\Bw X Z,?_,?_⟩
 ·refine⟨Nat×List zbV×OA×Nat,fun s=>⟨[(8,.slice q ms.length c),(12,.slice s.2.2.1 s.2.1.length s.2.2.2),(57,i64 ms.length),(58,i64 (s.1:Nat))],[]⟩,
   fun s Z=>s.1<=ms.length/\s.2.1.map (·.1)=(ms.take s.1).flatMap (fun x=>qN x.m)/\OwnS exE 46 X.heap.size Z s.2.2.1 s.2.2.2 s.2.1/\(∀ x∈s.2.1,OwnS evE 49 X.heap.size Z x.2.1 x.2.2 x.1.ev)/\Bw X Z,fun s=>ms.length-s.1,(0,[],p0,c0),
   (cvE rfl rfl),⟨UU _,rfl,oY,fun x hx=>(by cases hx),hbY⟩,?_⟩
  clear oY hbY;rintro⟨k,outs,po,co⟩ Z ⟨hk,hou,oZ,nZ,hbZ⟩;dsimp only at hk hou oZ nZ ⊢;have hZs:=hbZ.size;have oMZ:OwnS zhR 95 w.heap.size Z q c ms:=oM.same fun a ha=>hbZ.block _ (zx oM ha).2.1;have nMZ:∀ x∈ms,NInM w.heap.size (fun k=>w.heap.size<=k) Z x:=fun x hx=>(nM x hx).same fun {α E T c q l} _ _ _ hr=>⟨hr.own.same fun a ha=>hbZ.block _ (zx hr.own ha).2.1,hr.inF⟩;refine biE (fun hc=>?_) fun hc=>?_
  ·have hc:(k:Int)<(ms.length:Int):=dT hc;have hkl:k<ms.length:=by omega
   obtain⟨b,o,hq,hcall⟩:=cnt (lim:=1) hkl oMZ nMZ (by decide) (by decide);obtain⟨x,hx⟩:∃ x,ms[k]=x:=⟨_,rfl⟩;have hxm:x∈ms:=by rw [<- hx];exact gM hkl
   have htk:(ms.take (k+1)).flatMap (fun x=>qN x.m)=(ms.take k).flatMap (fun x=>qN x.m)++qN x.m:=by
    rw [tsg hkl,Ke,hx,KO,Qm,QF]
   rw [hx] at hcall;have hat:zI Z ⟨b,o+k*336,none⟩ (zod x):=by
    obtain⟨b',o',hq',_,hat⟩:=oMZ.row.at hkl;rw [hq] at hq';have:=hat k hkl;simp only [KW,Up,Gc] at hq';rw [<- hx,hq'.1,hq'.2];exact this
   have hbX2:b<X.heap.size:=(zx oM hq).2.1;subst hq;refine⟨k,rfl,hkl,cmo hcall ?_⟩;rintro e _ ⟨rfl,rfl⟩;refine biE (fun h=>?_) fun h=>?_
   ·have h:jv x.m 1=0:=Uu (dT h);have hc0:qN x.m=[]:=Gi h;rw [hc0,QF] at htk;exact nxI (by omega) ⟨(k+1,outs,po,co),(cvE rfl rfl),⟨hkl,by rw [hou,htk],oZ,nZ,hbZ⟩,zdc (by omega)⟩
   have h:jv x.m 1≠0:=fun e=>(dF h) (by rw [e];rfl);have hc1:qN x.m=zds x.m:=Gh h;rw [hc1] at htk;refine⟨k,rfl,hkl,cmo zsa ?_⟩;rintro e U ⟨rfl,fU,sU,hbU⟩;have hxM:=nMZ x hxm;have hxB:=hQ.mb hmo hsm x.m (by rw [<- hms];exact UF.2 ⟨x,hxm,rfl⟩) h;obtain⟨Rd,hRd⟩:∃ Rd:Nat->Prop,Rd=fun k=>k<X.heap.size\/k=Z.heap.size:=⟨_,rfl⟩;have ltX:∀ {α:Type} {E:Enc α} {T cc:Nat} {r:OA} {ll:List α},RowIn E T w.heap.size (fun k=>w.heap.size<=k) X r cc ll->∀ a,r=some a->Rd a.block:=fun {α E T cc r ll} h a ha=>by rw [hRd];exact .inl (zx h.own ha).2.1
   have hX:=nM x hxm;have hM:MixM Rd U b (o+k*336) x.m x.q x.c x.p1 x.p2 x.p3 x.c1 x.c2 x.c3 x.xs x.ys:=by
    have r:∀ {α:Type} {E:Enc α} {T cc:Nat} {r:OA} {ll:List α},RowIn E T w.heap.size (fun k=>w.heap.size<=k) Z r cc ll->SlR E U r ll:=fun {α E T cc r ll} h=>(h.own.below hbU).row;refine⟨zr hbU hat,r hxM.ev,fun e=>?_,r hxM.r1,hxM.e2,r hxM.r2,fun y hy=>r (hxM.n2 y hy),hxM.e3,r hxM.r3,fun y hy=>r (hxM.n3 y hy),by rw [hRd];exact .inl hbX2,ltX hX.ev,ltX hX.r1,ltX hX.r2,ltX hX.r3,fun y hy=>ltX (hX.n2 y hy),fun y hy=>ltX (hX.n3 y hy)⟩;rcases hxM.ev.own.inv with ⟨_,h,_⟩ | ⟨g,cur,h,_⟩
    ·exact h
    ·rw [e] at h;cases h
   have hRl:∀ k,Rd k->k<U.heap.size:=fun k hk=>by
    rw [hRd] at hk;omega
   have hTU:Tz64M U:=hG.t64.below (hbX.trans ((hbZ.trans (hbU.mono hZs)).mono hXs));have htz:=zaT hG.t64;have hI:=zsb hM fU (by rw [hRd];exact .inr rfl) hRl hTU (by rw [hRd];left;omega) hxB hxB.ev;have hln:outs.length+(zds x.m).length<=30000:=by
    have h2:=hQ.len hmo hsm;have h3:(jd p V)=ms.flatMap (fun x=>qN x.m):=by
     show (qi p V).flatMap qN=_;rw [<- hms,Ql]
    rw [h3] at h2;have h4:ms.flatMap (fun x=>qN x.m)=(ms.take (k+1)).flatMap (fun x=>qN x.m)++(ms.drop (k+1)).flatMap (fun x=>qN x.m):=(by rw [<- Ke,JP]);rw [h4,htk,<- hou,lap,lap,QI] at h2;omega
   refine cmo (zlm (oZ.below hbU) (fun y hy=>(nZ y hy).below hbU) (by omega) hI (UR _) (fun k hk=>⟨hRl k hk,rfl⟩) (fun k hk=>by rw [hRd] at hk;exact hk) fU (by omega) hln) ?_;rintro e T ⟨⟨new,pn,cn,rfl,zy,oT,nT⟩,hbT⟩;exact nxI (by omega) ⟨(k+1,outs++new,pn,cn),(cvE rfl rfl),⟨hkl,by rw [QL,hou,zy,htk],oT,nT,(hbZ.trans (hbU.mono hZs)).trans hbT⟩,zdc (by omega)⟩
  ·have hc:¬ (k:Int)<(ms.length:Int):=dF hc;obtain rfl:k=ms.length:=by omega
   rw [Qt] at hou;refine⟨(outs,po,co),(cvE rfl rfl),?_,oZ,nZ,hbZ⟩;rw [hou];show ms.flatMap _=(qi p V).flatMap qN;rw [<- hms,Ql]
 rintro⟨outs,po,co⟩ Z ⟨hou,oZ,nZ,hbZ⟩;exact⟨.inl ⟨V,hCO,outs,po,co,rfl,hou,oZ.lower hXs,fun x hx=>(nZ x hx).lower hXs⟩,hbX.trans (hbZ.mono hXs)⟩
end
def zb3:List (List Nat)->Nat
 | []=>1
 | f::fs=>f.length*zb3 fs
theorem zgd {a b lim:Nat} (hb:1<=b):min (min a lim*b) lim=min (a*b) lim:=by
 by_cases ha:a<=lim
 ·rw [QV ha]
 ·have e:min a lim=lim:=Nat.min_eq_right (by omega);have h2:lim<=lim*b:=Nat.le_mul_of_pos_right _ (by omega);have h3:lim<=a*b:=UI (by omega) (Nat.le_mul_of_pos_right a (by omega:0<b));rw [e,Nat.min_eq_right h2,Nat.min_eq_right h3]
theorem zff:∀ fs:List (List Nat),(∀ f∈fs,f≠[])->1<=zb3 fs
 | [],_=>UR _
 | f::fs,h=>Nat.mul_pos (List.length_pos_iff.2 (h f Kx)) (zff fs fun g hg=>h g (JW _ hg))
theorem zjt {lim:Nat}:∀ (fs:List (List Nat)) (n:Nat),n<=lim->(∀ f∈fs,f≠[])->zeX lim fs n=some (min (n*zb3 fs) lim)
 | [],n,h,_=>by
  show some n=some (min (n*1) lim);rw [US,QV h]
 | f::fs,n,h,hf=>by
  have h1:f≠[]:=hf f Kx;have hp:1<=f.length:=List.length_pos_iff.2 h1;unfold zeX;rw [Gh h1,zjt fs _ (Qy ..) fun g hg=>hf g (JW _ hg)];congr 1;show min (min (n*f.length) lim*zb3 fs) lim=min (n*(f.length*zb3 fs)) lim;rw [<- UA,zgd (zff fs fun g hg=>hf g (JW _ hg))]
theorem ziE {lim:Nat}:∀ (fs:List (List Nat)) (n:Nat),(∃ f∈fs,f=[])->zeX lim fs n=none
 | [],n,⟨f,h,_⟩=>by cases h
 | f::fs,n,⟨g,hg,e⟩=>by
  unfold zeX;by_cases h1:f=[]
  ·rw [Gi h1]
  ·rw [Gh h1];refine ziE fs _ ⟨g,?_,e⟩;rcases Uy.1 hg with h | h
   ·rw [h] at e;exact Gj e h1
   ·exact h
def up (len:Nat):Nat->Nat->Nat
 | 0,_=>1
 | m+1,k=>if k<len then k*up len m (k+1) else 1
theorem zoP (len:Nat):∀ m k,1<=k->1<=up len m k
 | 0,_,_=>UR _
 | m+1,k,h=>by
  unfold up
  split
  ·exact Nat.mul_pos h (zoP len m (k+1) (by omega))
  ·exact UR _
theorem zno {lim len:Nat}:∀ (m k n:Nat),1<=k->n<=lim->zf1 lim len m k n=min (n*up len m k) lim
 | 0,k,n,_,h=>by
  show n=min (n*1) lim;rw [US,QV h]
 | m+1,k,n,hk,h=>by
  unfold zf1 up
  split
  ·rw [zno m (k+1) _ (by omega) (Qy ..),zgd (zoP len m (k+1) (by omega)),UA]
  ·rw [US,QV h]
theorem zoQ:∀ (m k:Nat),1<=k->∀ len,len<=k+m->k<=len->fct (k-1)*up len m k=fct (len-1)
 | 0,k,h1,len,h2,h3=>by
  show fct (k-1)*1=_;rw [US,show len=k by omega]
 | m+1,k,h1,len,h2,h3=>by
  unfold up
  split
  ·rename_i hlt;rw [<- zoQ m (k+1) (by omega) len (by omega) (by omega),<- UA];congr 1;obtain⟨j,rfl⟩:∃ j,k=j+1:=⟨k-1,by omega⟩;show fct j*(j+1)=(j+1)*fct j;exact UJ _ _
  ·rw [US,show len=k by omega]
theorem zsL {len:Nat} (h:1<=len):up len len 2=fct (len-1):=by
 by_cases h2:2<=len
 ·have:=zoQ len 2 (by decide) len (by omega) h2;have h3:fct (2-1)=1:=rfl;rw [h3,UT] at this;exact this
 ·have e:len=1:=by omega
  subst e;rfl
def zb2:List (List Nat)->Nat
 | []=>1
 | w::ws=>fct (w.length-1)*zb2 ws
theorem zcp:∀ ws,1<=zb2 ws
 | []=>UR _
 | w::ws=>Nat.mul_pos (zdM _) (zcp ws)
theorem znn {lim:Nat}:∀ (ws:List (List Nat)) (n:Nat),n<=lim->(∀ w∈ws,1<=w.length)->zf0 lim ws n=min (n*zb2 ws) lim
 | [],n,h,_=>by
  show n=min (n*1) lim;rw [US,QV h]
 | w::ws,n,h,hw=>by
  unfold zf0;rw [zno _ _ _ (by decide) h,zsL (hw w Kx),znn ws _ (Qy ..) fun v hv=>hw v (JW _ hv),zgd (zcp ws)];show _=min (n*(fct (w.length-1)*zb2 ws)) lim;rw [UA]
theorem zgj {m:MixD} {lim:Nat} (h1:1<=lim) (hw:∀ w∈m.wr,1<=w.length):jv m lim=if ∀ r∈m.rs,r.2≠[] then min (zb3 (m.rs.map (·.2))*zb2 m.wr) lim else 0:=by
 unfold jv
 split
 ·rename_i e;rw [Gh];intro h;rw [zjt _ _ h1 fun f hf=>by
   obtain⟨r,hr,rfl⟩:=UF.1 hf;exact h r hr] at e
  cases e
 ·rename_i n e;by_cases h:∀ r∈m.rs,r.2≠[]
  ·rw [Gi h];rw [zjt _ _ h1 fun f hf=>by
    obtain⟨r,hr,rfl⟩:=UF.1 hf;exact h r hr] at e
   have e:=Ua e;rw [znn _ _ (by rw [<- e];exact Qy ..) hw,<- e,UT,zgd (zcp _)]
  ·rw [ziE] at e
   ·cases e
   ·refine Jo fun hn=>h fun r hr e2=>hn ⟨r.2,UF.2 ⟨r,hr,rfl⟩,e2⟩
theorem zdr {m:MixD} (hw:∀ w∈m.wr,1<=w.length):jv m 1≠0↔∀ r∈m.rs,r.2≠[]:=by
 rw [zgj (by decide) hw];constructor
 ·intro h;refine Jo fun hn=>h (Gh hn)
 ·intro h;rw [Gi h];have h1:1<=zb3 (m.rs.map (·.2)):=zff _ fun f hf=>by
   obtain⟨r,hr,rfl⟩:=UF.1 hf;exact h r hr
  have h2:1<=zb3 (m.rs.map (·.2))*zb2 m.wr:=Nat.mul_pos h1 (zcp _);rw [Nat.min_eq_right h2];decide
theorem zox (m:MixD):(zds m).length=z6 (zL m).reverse:=by
 unfold zds qa;rw [QI,QI,KS]
theorem zmM:∀ rs:List (Nat×List Nat),z6 (rs.map fun r=>r.2.length)=zb3 (rs.map (·.2))
 | []=>rfl
 | r::rs=>by
  show r.2.length*z6 (rs.map fun r=>r.2.length)=r.2.length*zb3 (rs.map (·.2));rw [zmM rs]
theorem zmL:∀ ws:List (List Nat),(∀ w∈ws,1<=w.length/\w.length<=48)->z6 (ws.map fun w=>(zM w).length)<=zb2 ws
 | [],_=>UR _
 | w::ws,h=>by
  show (zM w).length*z6 (ws.map fun w=>(zM w).length)<=fct (w.length-1)*zb2 ws;have h1:=h w Kx;exact Ul (zgE h1.1 h1.2).1 (zmL ws fun v hv=>h v (JW _ hv))
theorem zqk {m:MixD} (hw:∀ w∈m.wr,1<=w.length/\w.length<=48) (h:jv m 20001<=20000):(qN m).length<=jv m 20001:=by
 unfold qN
 split
 ·exact UU _
 ·rename_i h1;have hs:=(zdr fun w hm=>(hw w hm).1).1 h1;have e:=zgj (m:=m) (lim:=20001) (by decide) fun w hm=>(hw w hm).1;rw [Gi hs] at e;have hp:zb3 (m.rs.map (·.2))*zb2 m.wr=jv m 20001:=by
   by_cases hb:zb3 (m.rs.map (·.2))*zb2 m.wr<=20001
   ·rw [e,QV hb]
   ·rw [Nat.min_eq_right (by omega)] at e;omega
  rw [zox,<- hp];unfold zL;have e2:z6 (m.rs.map (fun r=>r.2.length)++m.wr.map fun w=>(zM w).length).reverse=z6 (m.rs.map (fun r=>r.2.length)++m.wr.map fun w=>(zM w).length):=by
   rw [zfg];unfold zbv;rw [zfp,UT]
  rw [e2,zcq,zmM];exact Nat.mul_le_mul_left _ (zmL _ hw)
theorem zl3 {m:MixD} (hw:∀ w∈m.wr,1<=w.length) {lim:Nat} (hl:1<=lim) (h:jv m lim<lim) (h1:jv m 1≠0):∀ w∈m.wr,fct (w.length-1)<lim:=by
 have hs:=(zdr hw).1 h1;have e:=zgj (m:=m) hl hw;rw [Gi hs] at e;have hp:zb3 (m.rs.map (·.2))*zb2 m.wr<lim:=by
  refine Qw fun hb=>?_;rw [Nat.min_eq_right hb] at e;omega
 have h2:1<=zb3 (m.rs.map (·.2)):=by
  refine Nat.one_le_iff_ne_zero.2 fun h0=>?_;rw [h0,UN,Nat.zero_min] at e;have e1:=zgj (m:=m) (lim:=1) (by decide) hw;rw [Gi hs,h0,UN,Nat.zero_min] at e1;exact h1 e1
 have h3:zb2 m.wr<lim:=KC (Nat.le_mul_of_pos_left _ (by omega)) hp;have:∀ ws:List (List Nat),∀ w∈ws,fct (w.length-1)<=zb2 ws:=by
  intro ws
  induction ws with
  | nil=>intro w h;cases h
  | cons v ws ih =>
   intro w h;show _<=fct (v.length-1)*zb2 ws;rcases Uy.1 h with e | e
   ·rw [e];exact Nat.le_mul_of_pos_right _ (zcp ws)
   ·exact UI (ih w e) (Nat.le_mul_of_pos_left _ (zdM _))
 exact fun w hm=>KC (this _ w hm) h3
def jc:Nat->List PathD->List Ev
 | _,[]=>[]
 | k,P::Ps=>jz k P.ev++jc (k+1) Ps
theorem zhG:∀ (Ps:List PathD) (k:Nat) (x:ExD),(asR k Ps x).ev=x.ev++jc k Ps/\(asR k Ps x).po=x.po/\(asR k Ps x).rf=x.rf/\(asR k Ps x).co=x.co/\(asR k Ps x).mem=x.mem/\(asR k Ps x).dt.n=x.dt.n/\(asR k Ps x).ct.n=x.ct.n/\(asR k Ps x).rm.n=x.rm.n
 | [],k,x=>⟨(QF _).symm,rfl,rfl,rfl,rfl,rfl,rfl,rfl⟩
 | P::Ps,k,x=>by
  obtain⟨h1,h2⟩:=zhG Ps (k+1) (zbs x k P);refine⟨?_,h2⟩;show (asR (k+1) Ps (zbs x k P)).ev=x.ev++(jz k P.ev++jc (k+1) Ps);rw [h1,<- KL];rfl
theorem zkP:∀ (Ps:List PathD) (k n:Nat),Ps.foldl (fun n P=>n+P.ev.length) n=n+(jc k Ps).length
 | [],k,n=>rfl
 | P::Ps,k,n=>by
  show Ps.foldl _ (n+P.ev.length)=n+(jz k P.ev++jc (k+1) Ps).length;rw [zkP Ps (k+1),lap];unfold jz;rw [QI,Uz]
theorem zdm:∀ (Ps:List PathD) (k:Nat) (e:Ev),e∈jc k Ps->∃ P∈Ps,∃ a∈P.ev,∃ t:Nat,k<=t/\t<k+Ps.length/\e={ a with th:=t }
 | [],k,e,h=>by cases h
 | P::Ps,k,e,h=>by
  rcases QM.1 h with h | h
  ·obtain⟨a,ha,rfl⟩:=UF.1 h;exact⟨P,Kx,a,ha,k,UR _,by rw [Qp];omega,rfl⟩
  ·obtain⟨Q,hQ,a,ha,t,h1,h2,h3⟩:=zdm Ps (k+1) e h;exact⟨Q,JW _ hQ,a,ha,t,by omega,by rw [Qp];omega,h3⟩
section
variable {init:List UInt8} {Ps:List PathD}
theorem zbh:(j6 init Ps).ev=qs 0 init++jc 0 Ps:=(zhG Ps 0 _).1
theorem zqs:(j6 init Ps).ev.length=zbt init.length Ps:=by
 rw [zbh,lap,zX];exact (zkP Ps 0 init.length).symm
theorem zcB:(j6 init Ps).rf=zc2 (zbt init.length Ps)/\(j6 init Ps).co=zc2 (zbt init.length Ps)/\(j6 init Ps).mem=(fun _=>0)/\(j6 init Ps).dt.n=zbt init.length Ps/\(j6 init Ps).ct.n=zbt init.length Ps/\(j6 init Ps).rm.n=zbt init.length Ps:=by
 obtain⟨_,_,h1,h2,h3,h4,h5,h6⟩:=zhG Ps 0 { ex0 (zbt init.length Ps) with ev:=qs 0 init };exact⟨h1,h2,h3,h4,h5,h6⟩
theorem zoB {i:Nat} (h:i<init.length):(j6 init Ps).ev[i]?=some ⟨-1,2,UInt8.ofNat i,init[i],0,0,0⟩:=by
 rw [zbh,Jq (by rw [zX];exact h),zbc init 0 h,UM]
theorem zqr {e:Ev} (h:e∈(j6 init Ps).ev):(∃ i,∃ h:i<init.length,e=⟨-1,2,UInt8.ofNat i,init[i],0,0,0⟩)\/∃ P∈Ps,∃ a∈P.ev,∃ t:Nat,t<Ps.length/\e={ a with th:=t }:=by
 rw [zbh] at h;rcases QM.1 h with h | h
 ·obtain⟨i,hi,rfl⟩:=Kg h;rw [zX] at hi;have:=zbc init 0 hi;rw [gE (by rw [zX];exact hi),UM] at this;exact .inl ⟨i,hi,Ua this⟩
 ·obtain⟨P,hP,a,ha,t,_,h2,h3⟩:=zdm Ps 0 e h;exact .inr ⟨P,hP,a,ha,t,by omega,h3⟩
theorem zcC (hi6:init.length<=6) (hP:∀ P∈Ps,PathW init.length P) {e:Ev} (h:e∈(j6 init Ps).ev) (hk:e.k=1\/e.k=2):e.l.toNat<init.length:=by
 rcases zqr h with ⟨i,hi,rfl⟩ | ⟨P,hPm,a,ha,t,_,rfl⟩
 ·show (UInt8.ofNat i).toNat<_;rw [KF];omega
 ·exact (hP P hPm).b.loc a ha hk
end
def wrF:Nat->List Ev->Nat->List Nat
 | _,[],_=>[]
 | i,e::es,l=>(if e.k=2/\e.l.toNat=l then [i] else [])++wrF (i+1) es l
theorem ziM:∀ (es:List Ev) (i:Nat) (W:List (List Nat)),(∀ e∈es,e.k=2->e.l.toNat<W.length)->(zhM i es W).length=W.length/\∀ l,l<W.length->(zhM i es W).getD l []=W.getD l []++wrF i es l
 | [],i,W,h=>⟨rfl,fun l hl=>(QF _).symm⟩
 | e::es,i,W,h=>by
  unfold zhM;by_cases hk:e.k=2
  ·rw [Gi hk];obtain⟨V,hV⟩:=nm (W.set e.l.toNat (W.getD e.l.toNat []++[i]));have hVl:V.length=W.length:=by rw [hV,QK]
   obtain⟨h1,h2⟩:=ziM es (i+1) V fun d hd hd2=>by rw [hVl];exact h d (JW _ hd) hd2
   rw [<- hV];refine⟨h1.trans hVl,fun l hl=>?_⟩;rw [h2 l (by omega)];show _=W.getD l []++((if e.k=2/\e.l.toNat=l then [i] else [])++wrF (i+1) es l);rw [<- KL];congr 1;rw [hV,gDe];by_cases hel:e.l.toNat=l
   ·rw [Gi ⟨hk,hel⟩,hel,JD hl];rfl
   ·rw [Gh fun h=>hel h.2,JU hel,QF,gDe]
  ·rw [Gh hk];obtain⟨h1,h2⟩:=ziM es (i+1) W fun d hd=>h d (JW _ hd);refine⟨h1,fun l hl=>?_⟩;rw [h2 l hl];show _=W.getD l []++((if e.k=2/\e.l.toNat=l then [i] else [])++wrF (i+1) es l);rw [Gh fun h=>hk h.1,QO]
theorem zoM:∀ (es:List Ev) (i l:Nat),wrF i es l=((List.range es.length).filter fun j=>decide ((es.getD j ev0).k=2)&&decide ((es.getD j ev0).l.toNat=l)).map (· + i)
 | [],i,l=>rfl
 | e::es,i,l=>by
  unfold wrF;rw [zoM es (i+1) l,Qp,List.range_succ_eq_map,Qk,List.filter_map];have e0:(e::es).getD 0 ev0=e:=rfl;rw [e0];have ee:∀ j,(e::es).getD (Nat.succ j) ev0=es.getD j ev0:=fun j=>rfl;have hm:∀ L:List Nat,(L.map Nat.succ).map (· + i)=L.map (· + (i+1)):=fun L=>by
   rw [UD];exact Ki fun j _=>by show j.succ+i=j+(i+1);omega
  by_cases hk:e.k=2/\e.l.toNat=l
  ·rw [Gi hk,Un hk.1,Un hk.2,Gi (show (true&&true)=true from rfl),Ux,hm,UM];rfl
  ·rw [Gh hk];have:(decide (e.k=2)&&decide (e.l.toNat=l))=false:=by
    rw [Bool.and_eq_false_iff];by_cases h1:e.k=2
    ·exact .inr (Uc fun h=>hk ⟨h1,h⟩)
    ·exact .inl (Uc h1)
   rw [this,Gh Ks,hm];rfl
theorem zdC (all:List Ev) (W:List (List Nat)):∀ (es:List Ev) (i:Nat) (r:Nat×List Nat),r∈zbL all W i es->∃ j e,es[j]?=some e/\e.k=1/\r=(i+j,(W.getD e.l.toNat []).filter fun w=>decide ((all.getD w ev0).v=e.v))
 | [],i,r,h=>by cases h
 | e::es,i,r,h=>by
  unfold zbL at h
  split at h
  ·rename_i hk;rcases Uy.1 h with h | h
   ·exact⟨0,e,rfl,hk,by rw [h];rfl⟩
   ·obtain⟨j,d,h1,h2,h3⟩:=zdC all W es (i+1) r h;exact⟨j+1,d,h1,h2,by rw [h3,show i+1+j=i+(j+1) by omega]⟩
  ·obtain⟨j,d,h1,h2,h3⟩:=zdC all W es (i+1) r h;exact⟨j+1,d,h1,h2,by rw [h3,show i+1+j=i+(j+1) by omega]⟩
theorem zkb (all:List Ev) (W:List (List Nat)):∀ (es:List Ev) (i:Nat),(zbL all W i es).length<=es.length
 | [],i=>UR _
 | e::es,i=>by
  have:=zkb all W es (i+1);unfold zbL
  split
  ·rw [Qp,Qp];omega
  ·rw [Qp];omega
structure ChoiceW (init:List UInt8) (Ps:List PathD) (m:MixD):Prop where
 i1:1<=init.length
 i6:init.length<=6
 p4:Ps.length<=4
 P:∀ P∈Ps,PathW init.length P
 n:zbt init.length Ps<=48
 m:m=zae (j6 init Ps) init.length
section
variable {init:List UInt8} {Ps:List PathD} {m:MixD}
theorem ChoiceW.base (h:ChoiceW init Ps m):m.base=j6 init Ps:=by rw [h.m];rfl
theorem ChoiceW.len (h:ChoiceW init Ps m):m.base.ev.length=zbt init.length Ps:=by rw [h.base,zqs]
theorem ChoiceW.wr (h:ChoiceW init Ps m):m.wr.length=init.length/\∀ l,l<init.length->m.wr.getD l []=qc m.base l:=by
 obtain⟨h1,h2⟩:=ziM (j6 init Ps).ev 0 (List.replicate init.length []) fun e he hk=>by
  rw [JM];exact zcC h.i6 h.P he (.inr hk)
 rw [JM] at h1 h2;have e:m.wr=zhM 0 (j6 init Ps).ev (List.replicate init.length []):=by rw [h.m];rfl
 rw [e];refine⟨h1,fun l hl=>?_⟩;rw [h2 l hl,zoM,gDe,List.getElem?_replicate,Gi hl,h.base];show []++List.map (· + 0) _=_;rw [QO];show List.map (fun x=>x) _=_;rw [List.map_id'];rfl
theorem ChoiceW.wr_mem (h:ChoiceW init Ps m) {w:List Nat} (hw:w∈m.wr):∃ l,l<init.length/\w=qc m.base l/\m.wr[l]?=some w:=by
 obtain⟨h1,h2⟩:=h.wr;obtain⟨l,hl,rfl⟩:=Kg hw;refine⟨l,by omega,?_,gE hl⟩;have:=h2 l (by omega);rw [gDe,gE hl] at this;exact this
theorem ChoiceW.ini (h:ChoiceW init Ps m) {i:Nat} (hi:i<init.length):evA m.base i=⟨-1,2,UInt8.ofNat i,init[i],0,0,0⟩:=by
 unfold evA;rw [h.base,gDe,zoB hi];rfl
theorem zf2 (x:ExD) (l:Nat):(qc x l).length<=x.ev.length:=by
 refine UI (JL ..) ?_;rw [KS];exact UR _
theorem ze3 {x:ExD} {l a:Nat} (h:a∈qc x l):a<x.ev.length:=Uj.1 (QN.1 h).1
theorem ChoiceW.head (h:ChoiceW init Ps m) {l:Nat} (hl:l<init.length):1<=(qc m.base l).length/\(qc m.base l).headD 48=l:=by
 have h6:=h.i6;have hn:init.length<=m.base.ev.length:=by
  rw [h.len];exact zgu _ _
 have e:=zfO (p:=fun i=>decide ((evA m.base i).k=2)&&decide ((evA m.base i).l.toNat=l)) (n:=m.base.ev.length) (k:=l) (by omega) (fun i hi=>by
  rw [h.ini (by omega)];have:¬ (UInt8.ofNat i).toNat=l:=by rw [KF];omega
  rw [Uc this,Ud]) (by
  rw [h.ini hl];have:(UInt8.ofNat l).toNat=l:=by rw [KF];omega
  rw [Un this];rfl)
 unfold qc;rw [e];exact⟨by simp,rfl⟩
theorem ChoiceW.rs (h:ChoiceW init Ps m) {r:Nat×List Nat} (hr:r∈m.rs):∃ e,m.base.ev[r.1]?=some e/\e.k=1/\r.2=(m.wr.getD e.l.toNat []).filter fun w=>decide ((m.base.ev.getD w ev0).v=e.v):=by
 rw [h.m] at hr ⊢;obtain⟨j,e,h1,h2,h3⟩:=zdC _ _ _ _ _ hr;rw [UM] at h3;exact⟨e,by rw [h3];exact h1,h2,by rw [h3];rfl⟩
theorem ChoiceW.src (h:ChoiceW init Ps m) {r:Nat×List Nat} (hr:r∈m.rs):r.1<m.base.ev.length/\r.2.length<=48/\∀ s∈r.2,s<m.base.ev.length:=by
 have hn:=h.n;rw [<- h.len] at hn;obtain⟨e,h1,h2,h3⟩:=h.rs hr;have hlt:=(Jr.1 h1).1;have hel:e.l.toNat<init.length:=by
  have:e∈(j6 init Ps).ev:=by rw [<- h.base];exact JY h1
  exact zcC h.i6 h.P this (.inl h2)
 rw [h.wr.2 _ hel] at h3;refine⟨hlt,?_,fun s hs=>?_⟩
 ·rw [h3];have h4:=zf2 m.base e.l.toNat;have h5:=JL (fun w=>decide ((m.base.ev.getD w ev0).v=e.v)) (qc m.base e.l.toNat);omega
 ·rw [h3] at hs;exact ze3 (QN.1 hs).1
theorem ChoiceW.c (h:ChoiceW init Ps m):MixC m:=by
 have hn:=h.n;rw [<- h.len] at hn;refine⟨?_,?_,fun r hr=>?_,fun w hw=>?_⟩
 ·have:m.rs.length<=m.base.ev.length:=by
   rw [h.m];exact zkb _ _ _ _
  omega
 ·rw [h.wr.1];exact h.i6
 ·obtain⟨h1,h2,h3⟩:=h.src hr;exact⟨by omega,by omega,fun s hs=>by have:=h3 s hs;omega⟩
 ·obtain⟨l,hl,rfl,_⟩:=h.wr_mem hw;have:=zf2 m.base l;omega
theorem ChoiceW.w1 (h:ChoiceW init Ps m) {w:List Nat} (hw:w∈m.wr):1<=w.length/\w.length<=48:=by
 refine⟨?_,h.c.wr w hw⟩;obtain⟨l,hl,rfl,_⟩:=h.wr_mem hw;exact (h.head hl).1
theorem ChoiceW.b (h:ChoiceW init Ps m):MixB m:=by
 have hn:=h.n;rw [<- h.len] at hn;obtain⟨b1,b2,b3,_⟩:=zcB (init:=init) (Ps:=Ps);have hc:=h.c;refine⟨hn,hc.rl,hc.wl,fun i _=>?_,fun i _=>?_,hc.rs,fun w hw=>?_⟩
 ·rw [h.base,b1];show 0<2^64;decide
 ·rw [h.base,b2];show 0<2^64;decide
 ·obtain⟨h1,h2⟩:=h.w1 hw;refine⟨h2,(zgE h1 h2).2,fun k hk=>?_⟩;have hp:=(zic h1 h2 hk).1;have hl:=hp.length_eq;refine⟨fun e=>by rw [e] at hl;simp at hl;omega,by omega,fun a ha=>?_⟩;obtain⟨l,hl,rfl,_⟩:=h.wr_mem hw;exact ze3 (hp.subset ha)
end
theorem zdD:∀ (Ts:List (List PathD)) (ds:List Nat) (P:PathD),P∈qE Ts ds->∃ T∈Ts,P∈T
 | Ts,[],P,h=>by cases Ts <;> cases h
 | [],d::ds,P,h=>by cases h
 | T::Ts,d::ds,P,h=>by
  unfold qE at h;rcases QM.1 h with h | h
  ·cases hd:T[d]? with
   | none=>rw [hd] at h;cases h
   | some Q =>
    rw [hd] at h;rw [Ky.1 h];exact⟨T,Kx,JY hd⟩
  ·obtain⟨U,hU,h2⟩:=zdD Ts ds P h;exact⟨U,JW _ hU,h2⟩
theorem zif:∀ (Ts:List (List PathD)) (ds:List Nat),(qE Ts ds).length<=Ts.length
 | Ts,[]=>by cases Ts <;> exact UU _
 | [],d::ds=>UR _
 | T::Ts,d::ds=>by
  unfold qE;rw [lap,Qp];have:=zif Ts ds
  cases T[d]? <;> simp <;> omega
section
variable {p:Prg} {V:List UInt8}
theorem zgK (hO:OkG p) {l:List InsD} (hl:l∈p.threads) {P:PathD} (hP:P∈zH V l):PathW p.init.length P:=by
 obtain⟨R,hR,rfl⟩:=UF.1 hP;have h1:=hO.tl l hl;rw [hO.il] at h1;obtain⟨a,b⟩:=zp3 h1 V R hR;exact zs4 a b
theorem zdR (hO:OkG p) {m:MixD} (hm:m∈qi p V):∃ ds∈qa ((p.threads.map (zH V)).map List.length),ChoiceW p.init (qE (p.threads.map (zH V)) ds) m:=by
 unfold qi zpy at hm;obtain⟨ds,hds,he⟩:=List.mem_filterMap.1 hm;unfold zg5 at he
 split at he
 ·rename_i h48;refine⟨ds,hds,hO.i1,hO.i6,?_,fun P hP=>?_,h48,(Ua he).symm⟩
  ·have:=zif (p.threads.map (zH V)) ds;rw [QI] at this;have:=hO.t4;omega
  ·obtain⟨T,hT,h2⟩:=zdD _ _ _ hP;obtain⟨l,hl,rfl⟩:=UF.1 hT;exact zgK hO hl h2
 ·cases he
theorem zo2 {α:Type} {f g:α->Nat}:∀ {l:List α},(∀ a∈l,f a<=g a)->(l.map f).sum<=(l.map g).sum
 | [],_=>UR _
 | a::l,h=>by
  rw [Ux,Ux,List.sum_cons,List.sum_cons];have:=h a Kx;have:=zo2 (l:=l) fun b hb=>h b (JW _ hb);omega
theorem zlU {α:Type} {f:α->Nat}:∀ {l:List α} {a:α},a∈l->f a<=(l.map f).sum
 | b::l,a,h=>by
  rw [Ux,List.sum_cons];rcases Uy.1 h with e | e
  ·rw [e];omega
  ·have:=zlU (f:=f) e;omega
theorem zk7 (hO:OkG p):CandB p V:=by
 refine⟨fun l hl P hP=>(zgK hO hl hP).b,fun hm=>?_,fun hm m hmm=>?_,fun hm hs m hmm h1=>?_,fun hm hs=>?_⟩
 ·have h1:(qi p V).length<=(qa ((p.threads.map (zH V)).map List.length)).length:=List.length_filterMap_le _ _;have h2:(qa ((p.threads.map (zH V)).map List.length)).length=z6 ((p.threads.map (zH V)).map List.length).reverse:=by
   unfold qa;rw [QI,KS]
  have h3:=hm.2.1 p.threads.length (UR _);rw [Qt] at h3;rw [zfg] at h2;have h4:zbv ((p.threads.map (zH V)).map List.length)<=4096:=by rw [UD];exact h3
  omega
 ·obtain⟨_,_,h⟩:=zdR hO hmm;exact h.c
 ·obtain⟨_,_,h⟩:=zdR hO hmm;exact h.b
 ·show ((qi p V).flatMap qN).length<=30000;rw [List.length_flatMap];have:((qi p V).map fun m=>(qN m).length).sum<=((qi p V).map fun m=>jv m 20001).sum:=zo2 fun m hmm=>by
   obtain⟨_,_,h⟩:=zdR hO hmm;refine zqk (fun w hw=>h.w1 hw) ?_;have:=zlU (f:=fun m=>jv m 20001) hmm;omega
  omega
end
def chR (Rs:List (List (List Nat))) (ds:List Nat) (j:Nat):List Nat:=(Rs.getD j []).getD (ds.getD j 0) []
theorem zsF (R:List (List Nat)) (Rs:List (List (List Nat))) (ds:List Nat):chR (R::Rs) ds 0=R.getD (ds.headD 0) []:=by
 cases ds <;> rfl
theorem zfQ (R:List (List Nat)) (Rs:List (List (List Nat))) (ds:List Nat) (j:Nat):chR (R::Rs) ds (j+1)=chR Rs ds.tail j:=by
 cases ds with
 | nil=>show (Rs.getD j []).getD (([]:List Nat).getD (j+1) 0) []=(Rs.getD j []).getD (([]:List Nat).getD j 0) [];rfl
 | cons d ds=>rfl
theorem zdq (ev:List Ev):∀ (Rs:List (List (List Nat))) (l:Nat) (ds:List Nat) (p:RelD×(Nat->UInt8)),(∀ j,j<Rs.length->(chR Rs ds j).Nodup)->(∀ i j j',j<Rs.length->j'<Rs.length->i∈chR Rs ds j->i∈chR Rs ds j'->j=j') ->
  (coG ev l Rs ds p).1.n=p.1.n/\∀ i j,zh (coG ev l Rs ds p).1 i j=true↔(∃ k,k<Rs.length/\i∈chR Rs ds k/\j∈twl (chR Rs ds k).reverse i)\/((∀ k,k<Rs.length->i ∉ chR Rs ds k)/\zh p.1 i j=true)
 | [],l,ds,p,_,_=>⟨rfl,fun i j=>⟨fun h => .inr ⟨fun k hk=>Gj hk (QW _),h⟩,fun h=>by
   rcases h with ⟨k,hk,_⟩ | h
   ·exact Gj hk (QW _)
   ·exact h.2⟩⟩
 | R::Rs,l,ds,p,hn,hd=>by
  obtain⟨q,hq⟩:=nm ((zas (R.getD (ds.headD 0) []) p.1,upd p.2 l (ev.getD ((R.getD (ds.headD 0) []).getLastD 0) ev0).v));have e:coG ev l (R::Rs) ds p=coG ev (l+1) Rs ds.tail q:=by rw [hq];rfl
  obtain⟨h1,h2⟩:=zdq ev Rs (l+1) ds.tail q (fun j hj=>by rw [<- zfQ R];exact hn (j+1) (by rw [Qp];omega)) (fun i j j' hj hj' a b=>by
   rw [<- zfQ R] at a b;have:=hd i (j+1) (j'+1) (by rw [Qp];omega) (by rw [Qp];omega) a b;omega)
  have hn0:=hn 0 (by rw [Qp];omega);rw [e];refine⟨h1.trans (by rw [hq];rfl),fun i j=>?_⟩;have hb:zh q.1 i j=if i∈chR (R::Rs) ds 0 then decide (j∈twl (chR (R::Rs) ds 0).reverse i) else zh p.1 i j:=by
   rw [hq,<- zsF R Rs ds];unfold zh zas;show (zha (chR (R::Rs) ds 0).reverse p.1.to 0 i).testBit j=_;rw [zg9 _ _ _ ((List.reverse_perm _).nodup_iff.2 hn0),QA,Uq];by_cases h:i∈chR (R::Rs) ds 0
   ·rw [Gi h,Gi (List.mem_reverse.2 h)]
   ·rw [Gh h,Gh fun h2=>h (List.mem_reverse.1 h2)]
  rw [h2,hb];constructor
  ·rintro (⟨k,a1,a2,a3⟩ | ⟨a1,a2⟩)
   ·rw [<- zfQ R] at a2 a3;exact .inl ⟨k+1,by rw [Qp];omega,a2,a3⟩
   ·by_cases h:i∈chR (R::Rs) ds 0
    ·rw [Gi h] at a2;exact .inl ⟨0,by rw [Qp];omega,h,dT a2⟩
    ·rw [Gh h] at a2;refine .inr ⟨fun k hk=>?_,a2⟩
     cases k with
     | zero=>exact h
     | succ k=>rw [zfQ];exact a1 k (by rw [Qp] at hk;omega)
  ·rintro (⟨k,a1,a2,a3⟩ | ⟨a1,a2⟩)
   ·cases k with
    | zero =>
     refine .inr ⟨fun k hk h=>?_,by rw [Gi a2];exact Un a3⟩;rw [<- zfQ R] at h;have:=hd i 0 (k+1) (by rw [Qp];omega) (by rw [Qp];omega) a2 h;omega
    | succ k =>
     rw [zfQ] at a2 a3;exact .inl ⟨k,by rw [Qp] at a1;omega,a2,a3⟩
   ·refine .inr ⟨fun k hk h=>?_,?_⟩
    ·rw [<- zfQ R] at h;exact a1 (k+1) (by rw [Qp];omega) h
    ·rw [Gh (a1 0 (by rw [Qp];omega))];exact a2
theorem znl (x:ExD):∀ (Rs:List (List (List Nat))) (l:Nat) (ds:List Nat) (p:RelD×(Nat->UInt8)),(∀ j,j<Rs.length->chR Rs ds j=z5 x (l+j))->coG x.ev l Rs ds p=zpi x Rs.length l p
 | [],l,ds,p,_=>rfl
 | R::Rs,l,ds,p,h=>by
  have h0:=h 0 (by rw [Qp];omega);rw [zsF,UH] at h0;show coG x.ev (l+1) Rs ds.tail (zas (R.getD (ds.headD 0) []) p.1,upd p.2 l (zd1 x.ev (R.getD (ds.headD 0) [])))=zpi x Rs.length (l+1) (zas (z5 x l) p.1,upd p.2 l (zd1 x.ev (z5 x l)));rw [h0];refine znl x Rs (l+1) ds.tail _ fun j hj=>?_;rw [<- zfQ R,h (j+1) (by rw [Qp];omega)];congr 1;omega
theorem zjO:∀ {s:List Nat},s.Nodup->s.Pairwise fun a b=>a∈twl s b
 | [],_ => .nil
 | y::s,h=>by
  have h2:=QQ.1 h;refine List.pairwise_cons.2 ⟨fun b hb=>?_,?_⟩
  ·rw [zc6,Gh (fun e=>h2.1 (by rw [e];exact hb))];exact Kx
  ·refine List.Pairwise.imp_of_mem ?_ (zjO h2.2);intro a b ha hb hab;rw [zc6,Gh (fun e=>h2.1 (by rw [e];exact hb))];exact JW _ hab
theorem zmT {key:Nat->Nat}:∀ {s:List Nat},s.Pairwise (fun a b=>key a<key b)->∀ a b,a∈s->b∈s->a≠b->key a≠key b
 | [],_,a,b,ha,_,_=>by cases ha
 | y::s,h,a,b,ha,hb,hne=>by
  have h2:=List.pairwise_cons.1 h;rcases Uy.1 ha with e | e
  ·rcases Uy.1 hb with e2 | e2
   ·exact Gj (e.trans e2.symm) hne
   ·have:=h2.1 b e2;rw [e];omega
  ·rcases Uy.1 hb with e2 | e2
   ·have:=h2.1 a e;rw [e2];omega
   ·exact zmT h2.2 a b e e2 hne
theorem znv {key:Nat->Nat}:∀ {a b:List Nat},a.Pairwise (fun x y=>key x<key y)->b.Pairwise (fun x y=>key x<key y)->(∀ x,x∈a↔x∈b)->a=b
 | [],[],_,_,_=>rfl
 | [],y::b,_,_,h=>Gj ((h y).2 (Kx ..)) (by simp)
 | x::a,[],_,_,h=>Gj ((h x).1 (Kx ..)) (by simp)
 | x::a,y::b,ha,hb,h=>by
  rw [List.pairwise_cons] at ha hb;have e:x=y:=by
   rcases Uy.1 ((h x).1 (Kx ..)) with e | h1
   ·exact e
   ·rcases Uy.1 ((h y).2 (Kx ..)) with e | h2
    ·exact e.symm
    ·have:=hb.1 x h1;have:=ha.1 y h2;omega
  subst e;rw [znv ha.2 hb.2 fun z=>?_];have hz:=h z;rw [Uy,Uy] at hz;constructor
  ·intro hza;rcases hz.1 (.inr hza) with e | h2
   ·subst e;have:=ha.1 z hza;omega
   ·exact h2
  ·intro hzb;rcases hz.2 (.inr hzb) with e | h2
   ·subst e;have:=hb.1 z hzb;omega
   ·exact h2
theorem zgD {x:ExD} {l:Nat} {rk:List Nat} (h48:x.ev.length<=48) (hp:rk.Perm (qc x l)) (hb:∀ i,i∈rk->∀ j,zh x.co i j=decide (j∈twl rk.reverse i)):z5 x l=rk:=by
 have hwn:(qc x l).Nodup:=List.nodup_range.filter _;have hn:rk.Nodup:=hp.nodup_iff.2 hwn;have hrn:rk.reverse.Nodup:=(List.reverse_perm _).nodup_iff.2 hn;have hlt:∀ i,i∈rk->i<64:=fun i hi=>by have:=ze3 (hp.subset hi);omega
 have key:rk.reverse.Pairwise fun a b=>zbP x a<zbP x b:=by
  refine List.Pairwise.imp_of_mem ?_ (zjO hrn);intro a b ha hb2 hab;have ha:=List.mem_reverse.1 ha;have hb2:=List.mem_reverse.1 hb2;show zbO (x.co.to a)<zbO (x.co.to b);rw [zkA,zkA];refine zhz (j:=a) (fun i _ hi=>?_) (hlt a ha) ?_ ?_
  ·have h1:zh x.co a i=true:=hi;rw [hb a ha] at h1;show zh x.co b i=true;rw [hb b hb2];exact Un (zh2 hab (dT h1))
  ·show zh x.co a a=false;rw [hb a ha];exact Uc fun h=>(zf6 h).2 rfl
  ·show zh x.co b a=true;rw [hb b hb2];exact Un hab
 have mem:∀ a,a∈sG x l↔a∈rk.reverse:=fun a=>znJ.trans (hp.mem_iff.symm.trans List.mem_reverse.symm);have e:sG x l=rk.reverse:=by
  exact znv (key:=zbP x) (zfE (ziS _ _) (zpb l) fun a b ha hb2 hne=>zmT key a b ((mem a).1 ha) ((mem b).1 hb2) hne) key mem
 rw [zpk,e,Ka]
section
variable {init:List UInt8} {Ps:List PathD} {m:MixD} {ds:List Nat}
theorem zcy (h:ChoiceW init Ps m):(zw m ds).ev.length<=48:=by
 rw [zgk,h.len];exact h.n
theorem ChoiceW.ch (h:ChoiceW init Ps m) (hd:ds∈qa (zL m)):∀ l,l<init.length->(chR (m.wr.map zM) (ds.drop m.rs.length) l).Perm (qc m.base l)/\(chR (m.wr.map zM) (ds.drop m.rs.length) l).headD 48=l:=by
 intro l hl;obtain⟨h1,h2⟩:=za1 hd;obtain⟨w1,w2⟩:=h.wr;have hlw:l<m.wr.length:=by omega
 have hw:m.wr[l]=qc m.base l:=by
  have:=w2 l hl;rw [gDe,gE hlw] at this;exact this
 have hs:(zL m)[m.rs.length+l]?=some (zM (qc m.base l)).length:=by
  unfold zL;rw [Jm (by rw [QI];omega),QI,Jy,KR,gE hlw,hw];rfl
 have hlen:m.rs.length+l<ds.length:=by rw [h1];exact (Jr.1 hs).1
 have hdl:=h2 _ _ _ hs (gE hlen);have e1:(m.wr.map zM).getD l []=zM (qc m.base l):=by
  rw [gDe,KR,gE hlw,hw];rfl
 have e2:(ds.drop m.rs.length).getD l 0=ds[m.rs.length+l]:=by
  rw [gDe,Ku,gE hlen];rfl
 have e3:chR (m.wr.map zM) (ds.drop m.rs.length) l=(zM (qc m.base l))[ds[m.rs.length+l]]:=by
  unfold chR;rw [e1,e2,gDe,gE hdl];rfl
 have hm:chR (m.wr.map zM) (ds.drop m.rs.length) l∈zM (qc m.base l):=by rw [e3];exact gM hdl
 obtain⟨g1,g2⟩:=h.head hl;have h48:(qc m.base l).length<=48:=by
  have:=zf2 m.base l;have:=h.n;have:=h.len;omega
 obtain⟨r1,r2⟩:=zic g1 h48 hm;exact⟨r1,r2.trans g2⟩
theorem ChoiceW.chx (h:ChoiceW init Ps m) (hd:ds∈qa (zL m)):(∀ j,j<(m.wr.map zM).length->(chR (m.wr.map zM) (ds.drop m.rs.length) j).Nodup)/\∀ i j j',j<(m.wr.map zM).length->j'<(m.wr.map zM).length->i∈chR (m.wr.map zM) (ds.drop m.rs.length) j->i∈chR (m.wr.map zM) (ds.drop m.rs.length) j'->j=j':=by
 rw [QI,h.wr.1];refine⟨fun j hj=>(h.ch hd j hj).1.nodup_iff.2 (List.nodup_range.filter _),fun i j j' hj hj' a b=>?_⟩;have a:=(h.ch hd j hj).1.subset a;have b:=(h.ch hd j' hj').1.subset b;exact (zeL.1 a).2.2.symm.trans (zeL.1 b).2.2
theorem ChoiceW.rank (h:ChoiceW init Ps m) (hd:ds∈qa (zL m)) {l:Nat} (hl:l<init.length):z5 (zw m ds) l=chR (m.wr.map zM) (ds.drop m.rs.length) l:=by
 obtain⟨c1,c2⟩:=h.chx hd;obtain⟨_,hb⟩:=zdq m.base.ev (m.wr.map zM) 0 (ds.drop m.rs.length) (m.base.co,m.base.mem) c1 c2;refine zgD (zcy h) (h.ch hd l hl).1 fun i hi j=>?_;have e:zh (zw m ds).co i j=zh (coG m.base.ev 0 (m.wr.map zM) (ds.drop m.rs.length) (m.base.co,m.base.mem)).1 i j:=rfl;rw [e,Bool.eq_iff_iff,hb,dE];have hlw:l<(m.wr.map zM).length:=by rw [QI,h.wr.1];exact hl
 constructor
 ·rintro (⟨k,a1,a2,a3⟩ | ⟨a1,a2⟩)
  ·have:=c2 i k l a1 hlw a2 hi;rw [<- this];exact a3
  ·exact Gj hi (a1 l hlw)
 ·exact fun hj => .inl ⟨l,hlw,hi,hj⟩
theorem ChoiceW.res (h:ChoiceW init Ps m) (hd:ds∈qa (zL m)):((zw m ds).co,(zw m ds).mem)=zpi (zw m ds) init.length 0 (⟨(zw m ds).ev.length,fun _=>0⟩,fun _=>0):=by
 have e:=znl (zw m ds) (m.wr.map zM) 0 (ds.drop m.rs.length) (m.base.co,m.base.mem) fun j hj=>by
  rw [QI,h.wr.1] at hj;rw [UM,h.rank hd hj]
 obtain⟨_,b2,b3,_⟩:=zcB (init:=init) (Ps:=Ps);have e2:(m.base.co,m.base.mem)=((⟨(zw m ds).ev.length,fun _=>0⟩,fun _=>0):RelD×(Nat->UInt8)):=by
  rw [zgk,h.len,h.base,b2,b3];rfl
 rw [QI,h.wr.1] at e;show coG (zw m ds).ev 0 (m.wr.map zM) (ds.drop m.rs.length) (m.base.co,m.base.mem)=_;rw [e,e2]
theorem zgB (a:RelD):jt a a=true:=by
 unfold jt;rw [Un rfl,Ut,Qg];exact fun i _=>Un rfl
theorem ChoiceW.co (h:ChoiceW init Ps m) (hd:ds∈qa (zL m)):zaG (zw m ds) init.length=true:=by
 unfold zaG;have e:=(zk1 (x:=zw m ds) init.length 0 (⟨(zw m ds).ev.length,fun _=>0⟩,fun _=>0) _).2 ⟨fun k _ hk=>by
  rw [h.rank hd (by omega)];exact (h.ch hd k (by omega)).2,h.res hd⟩
 rw [e];dsimp only;rw [zgB,Ut,Qg];exact fun l _=>Un rfl
end
theorem zcn {r:RelD} {n:Nat} (hn:r.n=n) (h48:n<=48) (h:∀ i j,i<48->zh r i j=true->i<n/\j<n):RelOk n r:=by
 refine .of hn h48 h fun i hi=>Qw fun hge=>?_;obtain⟨j,hj1,hj2⟩:=Ja hge;have:=(h i j hi hj2).2;omega
theorem zmP (ev:List Ev) {i j:Nat}:zh (poR ev) i j=true↔∃ e,ev[i]?=some e/\e.th ≠ -1/\i<j/\j<ev.length/\(ev.getD j ev0).th=e.th:=by
 unfold zh poR;show (zbw ev i).testBit j=true↔_;unfold zbw
 cases he:ev[i]? with
 | none=>simp
 | some e =>
  have hi:i<ev.length:=(Jr.1 he).1;dsimp only;by_cases h1:e.th = -1
  ·rw [Gi h1];simp [h1]
  ·rw [Gh h1,zjC];rw [Qq];constructor
   ·rintro (h | ⟨m,h2,h3,h4⟩)
    ·simp at h
    ·rw [ziw] at h4;exact⟨e,rfl,h1,by omega,by omega,by rw [h3];exact h4⟩
   ·rintro⟨e',he',_,h2,h3,h4⟩
    cases he'
    refine .inr ⟨j-(i+1),by omega,by omega,?_⟩;rw [ziw,show i+1+(j-(i+1))=j by omega];exact h4
theorem zmF:∀ (rs:List (Nat×List Nat)) (ds:List Nat) (f:Nat->Nat) (i j:Nat),(rfF rs ds f i).testBit j=true↔(f i).testBit j=true\/∃ (t:Nat) (r:Nat×List Nat),rs[t]?=some r/\i=r.2.getD (ds.getD t 0) 0/\j=r.1
 | [],ds,f,i,j=>⟨fun h => .inl h,fun h=>by
   rcases h with h | ⟨t,r,h,_⟩
   ·exact h
   ·simp at h⟩
 | (r,s)::rs,ds,f,i,j=>by
  show (rfF rs ds.tail (upd f (s.getD (ds.headD 0) 0) (f (s.getD (ds.headD 0) 0)|||2^r)) i).testBit j=true↔_;rw [zmF rs];have ht:∀ t,ds.tail.getD t 0=ds.getD (t+1) 0:=fun t=>by cases ds <;> rfl
  have h0:ds.headD 0=ds.getD 0 0:=by cases ds <;> rfl
  have hu:(upd f (s.getD (ds.headD 0) 0) (f (s.getD (ds.headD 0) 0)|||2^r) i).testBit j=true↔(f i).testBit j=true\/(i=s.getD (ds.getD 0 0) 0/\j=r):=by
   rw [h0];by_cases e:i=s.getD (ds.getD 0 0) 0
   ·rw [e,zQ,Um,j0,QC,dE];simp
   ·rw [qz _ _ e];exact⟨.inl,fun h=>h.resolve_right fun h2=>e h2.1⟩
  rw [hu];constructor
  ·rintro ((h | ⟨h1,h2⟩) | ⟨t,q,h1,h2,h3⟩)
   ·exact .inl h
   ·exact .inr ⟨0,(r,s),rfl,h1,h2⟩
   ·exact .inr ⟨t+1,q,h1,by rw [<- ht];exact h2,h3⟩
  ·rintro (h | ⟨t,q,h1,h2,h3⟩)
   ·exact .inl (.inl h)
   ·cases t with
    | zero =>
     have h1:some (r,s)=some q:=h1
     cases h1
     exact .inl (.inr ⟨h2,h3⟩)
    | succ t=>exact .inr ⟨t,q,h1,by rw [ht];exact h2,h3⟩
theorem zeD (b:Nat):∀ (ps:List (Nat×Nat)) (f:Nat->Nat) (i j:Nat),(zfe b ps f i).testBit j=true↔(f i).testBit j=true\/∃ p∈ps,i=b+p.1/\j=b+p.2
 | [],f,i,j=>⟨fun h => .inl h,fun h=>by
   rcases h with h | ⟨p,h,_⟩
   ·exact h
   ·cases h⟩
 | p::ps,f,i,j=>by
  show (zfe b ps (upd f (b+p.1) (f (b+p.1)|||2^(b+p.2))) i).testBit j=true↔_;rw [zeD b ps];have hu:(upd f (b+p.1) (f (b+p.1)|||2^(b+p.2)) i).testBit j=true↔(f i).testBit j=true\/(i=b+p.1/\j=b+p.2):=by
   by_cases e:i=b+p.1
   ·rw [e,zQ,Um,j0,QC,dE];simp
   ·rw [qz _ _ e];simp [e]
  rw [hu];constructor
  ·rintro ((h | h) | ⟨q,hq,h⟩)
   ·exact .inl h
   ·exact .inr ⟨p,Kx,h⟩
   ·exact .inr ⟨q,JW _ hq,h⟩
  ·rintro (h | ⟨q,hq,h⟩)
   ·exact .inl (.inl h)
   ·rcases Uy.1 hq with e | e
    ·rw [e] at h;exact .inl (.inr h)
    ·exact .inr ⟨q,e,h⟩
theorem getD_some {L:List Nat} {k:Nat} (h:k<L.length):L[k]?=some (L.getD k 0):=by
 rw [gDe,gE h];rfl
theorem zry {L:List Nat} {k v:Nat} (h:L[k]?=some v):L.getD k 0=v:=by
 rw [gDe,h];rfl
def zc1 (sel:PathD->List (Nat×Nat)):Nat->List PathD->Nat->Nat->Prop
 | _,[],_,_=>False
 | b,P::Ps,i,j=>(∃ p∈sel P,i=b+p.1/\j=b+p.2)\/zc1 sel (b+P.ev.length) Ps i j
theorem zgs (x:ExD) (k:Nat) (P:PathD):(zbs x k P).ev.length=x.ev.length+P.ev.length:=by
 show (x.ev++jz k P.ev).length=_;rw [lap];unfold jz;rw [QI]
theorem zqu:∀ (Ps:List PathD) (k:Nat) (x:ExD) (i j:Nat),zh (asR k Ps x).dt i j=true↔zh x.dt i j=true\/zc1 PathD.data x.ev.length Ps i j
 | [],k,x,i,j=>⟨fun h => .inl h,fun h=>h.elim id False.elim⟩
 | P::Ps,k,x,i,j=>by
  show zh (asR (k+1) Ps (zbs x k P)).dt i j=true↔_;rw [zqu Ps,zgs];show ((zfe x.ev.length P.data x.dt.to i).testBit j=true\/_)↔_;rw [zeD,or_assoc];rfl
theorem zqv:∀ (Ps:List PathD) (k:Nat) (x:ExD) (i j:Nat),zh (asR k Ps x).ct i j=true↔zh x.ct i j=true\/zc1 PathD.ctrl x.ev.length Ps i j
 | [],k,x,i,j=>⟨fun h => .inl h,fun h=>h.elim id False.elim⟩
 | P::Ps,k,x,i,j=>by
  show zh (asR (k+1) Ps (zbs x k P)).ct i j=true↔_;rw [zqv Ps,zgs];show ((zfe x.ev.length P.ctrl x.ct.to i).testBit j=true\/_)↔_;rw [zeD,or_assoc];rfl
theorem zqt:∀ (Ps:List PathD) (k:Nat) (x:ExD) (i j:Nat),zh (asR k Ps x).rm i j=true↔zh x.rm i j=true\/zc1 PathD.rmw x.ev.length Ps i j
 | [],k,x,i,j=>⟨fun h => .inl h,fun h=>h.elim id False.elim⟩
 | P::Ps,k,x,i,j=>by
  show zh (asR (k+1) Ps (zbs x k P)).rm i j=true↔_;rw [zqt Ps,zgs];show ((zfe x.ev.length P.rmw x.rm.to i).testBit j=true\/_)↔_;rw [zeD,or_assoc];rfl
theorem zjp {sel:PathD->List (Nat×Nat)}:∀ (Ps:List PathD) (k b i j:Nat),(∀ P∈Ps,∀ p∈sel P,p.1<P.ev.length/\p.2<P.ev.length)->zc1 sel b Ps i j->i<b+(jc k Ps).length/\j<b+(jc k Ps).length
 | [],k,b,i,j,h,hd=>hd.elim
 | P::Ps,k,b,i,j,h,hd=>by
  have e:(jc k (P::Ps)).length=P.ev.length+(jc (k+1) Ps).length:=by
   show (jz k P.ev++jc (k+1) Ps).length=_;rw [lap];unfold jz;rw [QI]
  rw [e];rcases hd with ⟨p,hp,h1,h2⟩ | hd
  ·have:=h P Kx p hp;omega
  ·have:=zjp Ps (k+1) _ i j (fun Q hQ=>h Q (JW _ hQ)) hd;omega
section
variable {init:List UInt8} {Ps:List PathD} {m:MixD} {ds:List Nat}
theorem zcj (n i j:Nat):¬ zh (zc2 n) i j=true:=fun h=>by
 have h:(0:Nat).testBit j=true:=h;simp at h
theorem zdT (h:∀ P∈Ps,PathW init.length P):(∀ i j,zh (j6 init Ps).dt i j=true↔zc1 PathD.data init.length Ps i j)/\(∀ i j,zh (j6 init Ps).ct i j=true↔zc1 PathD.ctrl init.length Ps i j)/\∀ i j,zh (j6 init Ps).rm i j=true↔zc1 PathD.rmw init.length Ps i j:=by
 obtain⟨x0,hx0⟩:∃ x0:ExD,x0={ ex0 (zbt init.length Ps) with ev:=qs 0 init }:=⟨_,rfl⟩;have hl:x0.ev.length=init.length:=by rw [hx0];exact zX init 0
 refine⟨fun i j=>?_,fun i j=>?_,fun i j=>?_⟩
 ·have:=zqu Ps 0 x0 i j;rw [hl] at this;show zh (asR 0 Ps _).dt i j=true↔_;rw [<- hx0,this];exact⟨fun h=>h.resolve_left (by rw [hx0];exact zcj _ i j),.inr⟩
 ·have:=zqv Ps 0 x0 i j;rw [hl] at this;show zh (asR 0 Ps _).ct i j=true↔_;rw [<- hx0,this];exact⟨fun h=>h.resolve_left (by rw [hx0];exact zcj _ i j),.inr⟩
 ·have:=zqt Ps 0 x0 i j;rw [hl] at this;show zh (asR 0 Ps _).rm i j=true↔_;rw [<- hx0,this];exact⟨fun h=>h.resolve_left (by rw [hx0];exact zcj _ i j),.inr⟩
theorem ChoiceW.rfb (h:ChoiceW init Ps m) (hd:ds∈qa (zL m)) {i j:Nat}:zh (zw m ds).rf i j=true↔∃ (t:Nat) (r:Nat×List Nat),m.rs[t]?=some r/\i∈r.2/\r.2[ds.getD t 0]?=some i/\j=r.1:=by
 obtain⟨h1,h2⟩:=za1 hd;obtain⟨b1,_⟩:=zcB (init:=init) (Ps:=Ps);have e:zh (zw m ds).rf i j=(rfF m.rs ds m.base.rf.to i).testBit j:=rfl;rw [e,zmF];have z:¬ (m.base.rf.to i).testBit j=true:=by
  rw [h.base,b1];exact zcj _ i j
 have dig:∀ {t r},m.rs[t]?=some r->ds.getD t 0<r.2.length:=fun {t r} hr=>by
  have ht:=(Jr.1 hr).1;have hs:(zL m)[t]?=some r.2.length:=by
   unfold zL;rw [Jq (by rw [QI];exact ht),KR,hr];rfl
  have hlen:t<ds.length:=by rw [h1];exact (Jr.1 hs).1
  rw [gDe,gE hlen];exact h2 _ _ _ hs (gE hlen)
 constructor
 ·rintro (h | ⟨t,r,g1,g2,g3⟩)
  ·exact Gj h z
  ·have hlt:=dig g1;have e2:r.2[ds.getD t 0]?=some i:=by
    rw [g2];exact getD_some hlt
   exact⟨t,r,g1,JY e2,e2,g3⟩
 ·rintro⟨t,r,g1,_,g2,g3⟩;exact .inr ⟨t,r,g1,(zry g2).symm,g3⟩
structure Rels6 (n:Nat) (x:ExD):Prop where
 po:RelOk n x.po
 rf:RelOk n x.rf
 co:RelOk n x.co
 dt:RelOk n x.dt
 ct:RelOk n x.ct
 rm:RelOk n x.rm
theorem ChoiceW.rels (h:ChoiceW init Ps m) (hd:ds∈qa (zL m)):Rels6 (zw m ds).ev.length (zw m ds):=by
 have h48:=zcy (ds:=ds) h;obtain⟨b1,b2,b3,b4,b5,b6⟩:=zcB (init:=init) (Ps:=Ps);have hl:(zw m ds).ev.length=zbt init.length Ps:=by rw [zgk,h.len]
 have hn:((zbt init.length Ps:Nat):Int)=((zw m ds).ev.length:Nat):=by rw [hl]
 obtain⟨d1,d2,d3⟩:=zdT h.P;have hb:init.length+(jc 0 Ps).length=(zw m ds).ev.length:=by
  rw [zgk,h.base,zbh,lap,zX]
 refine⟨?_,?_,?_,?_,?_,?_⟩
 ·have e:(zw m ds).po=poR (zw m ds).ev:=by
   show m.base.po=poR m.base.ev;rw [h.base];rfl
  rw [e];refine zcn rfl h48 fun i j _ hb=>?_;obtain⟨e,he,_,_,h3,_⟩:=(zmP _).1 hb;exact⟨(Jr.1 he).1,h3⟩
 ·refine zcn (by show m.base.rf.n=_;rw [h.base,b1];exact hn) h48 fun i j _ hb=>?_;obtain⟨t,r,g1,g2,_,g3⟩:=(h.rfb hd).1 hb;obtain⟨s1,_,s3⟩:=h.src (JY g1);exact⟨s3 i g2,by rw [g3];exact s1⟩
 ·obtain⟨c1,c2⟩:=h.chx hd;obtain⟨c0,hbits⟩:=zdq m.base.ev (m.wr.map zM) 0 (ds.drop m.rs.length) (m.base.co,m.base.mem) c1 c2;refine zcn (by show (coG m.base.ev 0 (m.wr.map zM) (ds.drop m.rs.length) (m.base.co,m.base.mem)).1.n=_;rw [c0,h.base,b2];exact hn) h48 fun i j _ hb=>?_;have hb:zh (coG m.base.ev 0 (m.wr.map zM) (ds.drop m.rs.length) (m.base.co,m.base.mem)).1 i j=true:=hb;rcases (hbits i j).1 hb with ⟨k,a1,a2,a3⟩ | ⟨_,a2⟩
  ·rw [QI,h.wr.1] at a1;have hp:=(h.ch hd k a1).1;exact⟨ze3 (hp.subset a2),ze3 (hp.subset (List.mem_reverse.1 (zf6 a3).1))⟩
  ·rw [h.base,b2] at a2;exact Gj a2 (zcj _ i j)
 ·refine zcn (by show m.base.dt.n=_;rw [h.base,b4];exact hn) h48 fun i j _ hb=>?_;have hb:zh m.base.dt i j=true:=hb;rw [h.base,d1] at hb;have:=zjp Ps 0 _ i j (fun P hP p hp=>(h.P P hP).b.dt p hp) hb;omega
 ·refine zcn (by show m.base.ct.n=_;rw [h.base,b5];exact hn) h48 fun i j _ hb=>?_;have hb:zh m.base.ct i j=true:=hb;rw [h.base,d2] at hb;have:=zjp Ps 0 _ i j (fun P hP p hp=>(h.P P hP).b.ct p hp) hb;omega
 ·refine zcn (by show m.base.rm.n=_;rw [h.base,b6];exact hn) h48 fun i j _ hb=>?_;have hb:zh m.base.rm i j=true:=hb;rw [h.base,d3] at hb;have:=zjp Ps 0 _ i j (fun P hP p hp=>(h.P P hP).b.rm p hp) hb;omega
end
theorem zr9 {p:Prg} {V:List UInt8} (hO:OkG p) {x:ExD} (hx:x∈jd p V):∃ Ps m ds,ChoiceW p.init Ps m/\m∈qi p V/\jv m 1≠0/\ds∈qa (zL m)/\x=zw m ds:=by
 obtain⟨m,hm,hx⟩:=List.mem_flatMap.1 hx;unfold qN at hx
 split at hx
 ·cases hx
 ·rename_i h1;obtain⟨d,_,h⟩:=zdR hO hm;obtain⟨ds,hds,rfl⟩:=UF.1 hx;exact⟨_,m,ds,h,hm,h1,hds,rfl⟩
structure GoodX (k:Nat) (x:ExD):Prop where
 n:x.ev.length<=48
 k1:1<=k
 k6:k<=6
 kn:k<=x.ev.length
 ini:qG x.ev=k
 po:x.po=poR x.ev
 rels:Rels6 x.ev.length x
 co:zaG x k=true
 ev0:(evA x 0).k=2/\(evA x 0).l=0
 w8:∀ l,(qc x l).length<=8
theorem ziu:∀ (a b:List Ev),(∀ e∈a,e.th = -1)->(∀ e∈b,e.th ≠ -1)->qG (a++b)=a.length
 | [],b,_,hb=>by
  unfold qG
  cases b with
  | nil=>rfl
  | cons e b=>rw [QO,Kl,Gh (by simpa using hb e Kx)]
 | e::a,b,ha,hb=>by
  rw [Qi,zlY,Gi (ha e Kx),ziu a b (fun d hd=>ha d (JW _ hd)) hb,Qp]
theorem zrC {n:Nat} (h:fct (n-1)<20001):n<=8:=by
 refine Nat.le_of_not_lt fun h9=>?_;have h1:fct 8<=fct (n-1):=zhp (by omega);have h2:fct 8=40320:=rfl;omega
section
variable {init:List UInt8} {Ps:List PathD} {m:MixD} {ds:List Nat}
theorem ChoiceW.inits (h:ChoiceW init Ps m):qG m.base.ev=init.length:=by
 rw [h.base,zbh,ziu,zX]
 ·intro e he;obtain⟨i,hi,rfl⟩:=Kg he;rw [zX] at hi;have:=zbc init 0 hi;rw [gE (by rw [zX];exact hi)] at this;rw [Ua this]
 ·intro e he;obtain⟨P,hP,a,ha,t,_,_,rfl⟩:=zdm Ps 0 e he;show ((t:Nat):Int) ≠ -1;omega
theorem ChoiceW.good (h:ChoiceW init Ps m) (hd:ds∈qa (zL m)) (h1:jv m 1≠0) (hc:jv m 20001<=20000):GoodX init.length (zw m ds):=by
 have hin:init.length<=m.base.ev.length:=by rw [h.len];exact zgu _ _
 have e0:=h.ini (i:=0) (by have:=h.i1;omega);refine⟨zcy h,h.i1,h.i6,hin,h.inits,?_,h.rels hd,h.co hd,?_,fun l=>?_⟩
 ·show m.base.po=poR m.base.ev;rw [h.base];rfl
 ·show (evA m.base 0).k=2/\(evA m.base 0).l=0;rw [e0];exact⟨rfl,rfl⟩
 ·show (qc m.base l).length<=8;by_cases hl:l<init.length
  ·have hw:=h.wr.2 l hl;have hlw:l<m.wr.length:=by have:=h.wr.1;omega
   have hm:qc m.base l∈m.wr:=by
    rw [<- hw,gDe,gE hlw];exact gM hlw
   exact zrC (zl3 (fun w hw=>(h.w1 hw).1) (lim:=20001) (by decide) (by omega) h1 _ hm)
  ·have:qc m.base l=[]:=by
    refine Jd.2 fun a ha=>?_;obtain⟨a1,a2,a3⟩:=zeL.1 ha;have hmem:evA m.base a∈(j6 init Ps).ev:=by
     rw [<- h.base];unfold evA;rw [gDe,gE a1];exact gM a1
    have:=zcC h.i6 h.P hmem (.inr (dT a2));omega
   rw [this];exact UU _
end
theorem zmj {p:Prg} {V:List UInt8} {most:Nat} (hO:OkG p) (hc:zdx p V most) (hm:most<=20000) {x:ExD} (hx:x∈jd p V):GoodX p.init.length x:=by
 obtain⟨Ps,m,ds,h,hmm,h1,hd,rfl⟩:=zr9 hO hx;refine h.good hd h1 ?_;have h2:=hc.2.2;have:=zlU (f:=fun m=>jv m 20001) hmm;omega
structure RightP (x:ExD):Prop where
 ev:jr x.ev (qG x.ev)=true
 rel:∀ r∈[x.po,x.rf,x.co,x.dt,x.ct,x.rm],r.n=x.ev.length/\okR r=true
 po:jt x.po (poR x.ev)=true
 rf:zaE x=true
 co:zaG x (qG x.ev)=true
section
variable {k:Nat} {x:ExD} {i:Nat}
structure SpW (y:ExD):Prop where
 w20:∀ l,(qc y l).length<=20
 po:zJ y.po.to
 rf:zJ y.rf.to
 co:zJ y.co.to
 dt:zJ y.dt.to
 ct:zJ y.ct.to
 rm:zJ y.rm.to
end
theorem zng (L : Nat) (es : List Ev) (t : Int) (n : Nat) : ∀ (vs : List UInt8) (i : Nat), i + vs.length = L → zbS L i (qs i vs ++ es) t n = zbS L L es t n
  | [], i, h => by
    have : i = L := by simpa using h
    rw [this]; rfl
  | v :: vs, i, h => by
    rw [Qp] at h
    show zbS L i (⟨-1, 2, UInt8.ofNat i, v, 0, 0, 0⟩ :: (qs (i + 1) vs ++ es)) t n = _
    have step : zbS L i (⟨-1, 2, UInt8.ofNat i, v, 0, 0, 0⟩ :: (qs (i + 1) vs ++ es)) t n = zbS L (i + 1) (qs (i + 1) vs ++ es) t n := by
      conv => lhs; unfold zbS
      rw [Gi (by omega), Gi rfl]
    rw [step]
    exact zng L es t n vs (i + 1) (by omega)
theorem znf {L k : Nat} (hk : k < 4) (qp : List Ev) : ∀ (es : List Ev) (i j : Nat) (t : Int) (n : Nat), L ≤ i → (∀ q e, es[q]? = some e → zsp L (j + q) e) → j + es.length ≤ 24 → 0 ≤ t → ((t = k ∧ n = j) ∨ (j = 0 ∧ t < k)) →
    ∃ (t' : Int) (n' : Nat), zbS L i (jz k es ++ qp) t n = zbS L (i + es.length) qp t' n' ∧ 0 ≤ t' ∧ ((t' = k ∧ n' = j + es.length) ∨ (j = 0 ∧ es = [] ∧ t' < k))
  | [], i, j, t, n, hi, he, hj, h0, hs => ⟨t, n, rfl, h0, by
      rcases hs with ⟨a, b⟩ | ⟨a, b⟩
      · exact .inl ⟨a, b⟩
      · exact .inr ⟨a, rfl, b⟩⟩
  | e :: es, i, j, t, n, hi, he, hj, h0, hs => by
    rw [Qp] at hj
    obtain ⟨_, hp, hkd⟩ := he 0 e rfl
    rw [UH] at hp
    have hpn : e.p.toNat = j := by rw [hp, KF]; omega
    have htk : t ≤ k := by rcases hs with ⟨a, _⟩ | ⟨_, b⟩ <;> omega
    have ht' : (if t < (k : Int) then (k : Int) else t) = k := by split <;> omega
    have hn' : (if t < (k : Int) then 0 else n) = j := by
      rcases hs with ⟨a, b⟩ | ⟨a, b⟩
      · rw [Gh (by omega)]; exact b
      · rw [Gi b]; exact a.symm
    obtain ⟨t2, n2, h1, h2, h3⟩ := znf (L := L) hk qp es (i + 1) (j + 1) k (j + 1) (by omega) (fun q d hq => by
      have h5 := he (q + 1) d hq
      have e5 : j + (q + 1) = j + 1 + q := by omega
      rw [e5] at h5
      exact h5) (by omega) (by omega) (.inl ⟨rfl, rfl⟩)
    refine ⟨t2, n2, ?_, h2, ?_⟩
    · rw [Qp, show i + (es.length + 1) = i + 1 + es.length by omega, ← h1]
      show zbS L i ({ e with th := (k : Int) } :: (jz k es ++ qp)) t n = _
      have step : zbS L i ({ e with th := (k : Int) } :: (jz k es ++ qp)) t n = if i < L then (if ({ e with th := (k : Int) } : Ev) = ⟨-1, 2, UInt8.ofNat i, e.v, 0, 0, 0⟩ then zbS L (i + 1) (jz k es ++ qp) t n else false) else if (k : Int) < t ∨ 4 ≤ (k : Int) then false else
          (if e.p.toNat = (if t < (k : Int) then 0 else n) then
            (if e.k = 1 ∨ e.k = 2 then (if e.l.toNat < L then zbS L (i + 1) (jz k es ++ qp) (if t < (k : Int) then (k : Int) else t) ((if t < (k : Int) then 0 else n) + 1) else false)
             else if e.k = 3 then (if e.l = 0 ∧ e.v = 0 then zbS L (i + 1) (jz k es ++ qp) (if t < (k : Int) then (k : Int) else t) ((if t < (k : Int) then 0 else n) + 1) else false) else false)
            else false) := rfl
      rw [step, Gh (by omega), Gh (by omega), hn', Gi hpn, ht']
      rcases hkd with ⟨a, b⟩ | ⟨a, b⟩
      · rw [Gi a, Gi b]
      · rw [Gh (by rw [a]; decide), Gi a, Gi b]
    · rcases h3 with ⟨a, b⟩ | ⟨a, _⟩
      · exact .inl ⟨a, by rw [Qp, b]; omega⟩
      · omega
theorem zhs {L : Nat} : ∀ (Ps : List PathD) (k i : Nat) (t : Int) (n : Nat), L ≤ i → (∀ P ∈ Ps, PathW L P) → k + Ps.length ≤ 4 → 0 ≤ t → (t < k ∨ (t = k ∧ n = 0)) → zbS L i (jc k Ps) t n = true
  | [], k, i, t, n, _, _, _, _, _ => rfl
  | P :: Ps, k, i, t, n, hi, hP, hk, h0, hs => by
    rw [Qp] at hk
    have hw := hP P Kx
    obtain ⟨t2, n2, h1, h2, h3⟩ := znf (L := L) (k := k) (by omega) (jc (k + 1) Ps) P.ev i 0 t n hi (fun q e hq => by rw [UM]; exact hw.ev q e hq) (by have := hw.n; omega) h0 (by
      rcases hs with a | ⟨a, b⟩
      · exact .inr ⟨rfl, a⟩
      · exact .inl ⟨a, b⟩)
    show zbS L i (jz k P.ev ++ jc (k + 1) Ps) t n = true
    rw [h1]
    refine zhs Ps (k + 1) _ t2 n2 (by omega) (fun Q hQ => hP Q (JW _ hQ)) (by omega) h2 (.inl ?_)
    rcases h3 with ⟨a, _⟩ | ⟨_, _, a⟩ <;> omega
section
variable {init : List UInt8} {Ps : List PathD} {m : MixD} {ds : List Nat}
theorem ChoiceW.evs (h : ChoiceW init Ps m) : jr m.base.ev init.length = true := by
  unfold jr
  rw [h.base, zbh, zng init.length _ 0 0 init 0 (UM _)]
  exact zhs Ps 0 _ 0 0 (UR _) h.P (by have := h.p4; omega) (Int.le_refl _) (.inr ⟨rfl, rfl⟩)
theorem zkc (all : List Ev) (W : List (List Nat)) : ∀ (es : List Ev) (i j : Nat) (e : Ev), es[j]? = some e → e.k = 1 → ∃ (t : Nat) (s : List Nat), (zbL all W i es)[t]? = some (i + j, s)
  | [], i, j, e, h, _ => by simp at h
  | d :: es, i, 0, e, h, hk => by
    have e1 : d = e := by simpa using h
    subst e1
    unfold zbL
    rw [Gi hk]
    exact ⟨0, _, rfl⟩
  | d :: es, i, j + 1, e, h, hk => by
    obtain ⟨t, s, ht⟩ := zkc all W es (i + 1) j e (by simpa using h) hk
    rw [show i + 1 + j = i + (j + 1) by omega] at ht
    unfold zbL
    split
    · exact ⟨t + 1, s, ht⟩
    · exact ⟨t, s, ht⟩
theorem zmI (all : List Ev) (W : List (List Nat)) : ∀ (es : List Ev) (i : Nat), (zbL all W i es).Pairwise (fun a b => a.1 < b.1) ∧ ∀ r ∈ zbL all W i es, i ≤ r.1
  | [], i => ⟨.nil, fun r h => by cases h⟩
  | d :: es, i => by
    obtain ⟨h1, h2⟩ := zmI all W es (i + 1)
    unfold zbL
    split
    · refine ⟨List.pairwise_cons.2 ⟨fun r hr => ?_, h1⟩, fun r hr => ?_⟩
      · have := h2 r hr
        show i < r.1
        omega
      · rcases Uy.1 hr with e | e
        · rw [e]; exact UR _
        · have := h2 r e; omega
    · exact ⟨h1, fun r hr => by have := h2 r hr; omega⟩
theorem ChoiceW.rs_one (h : ChoiceW init Ps m) {t t' : Nat} {r r' : Nat × List Nat} (h1 : m.rs[t]? = some r) (h2 : m.rs[t']? = some r') (he : r.1 = r'.1) : t = t' := by
  have hp : m.rs.Pairwise (fun a b => a.1 < b.1) := by rw [h.m]; exact (zmI _ _ _ _).1
  obtain ⟨l1, e1⟩ := Jr.1 h1
  obtain ⟨l2, e2⟩ := Jr.1 h2
  rcases Nat.lt_trichotomy t t' with g | g | g
  · have := List.pairwise_iff_getElem.1 hp t t' l1 l2 g
    rw [e1, e2] at this
    omega
  · exact g
  · have := List.pairwise_iff_getElem.1 hp t' t l2 l1 g
    rw [e1, e2] at this
    omega
theorem ChoiceW.rf (h : ChoiceW init Ps m) (hd : ds ∈ qa (zL m)) : zaE (zw m ds) = true := by
  have hr := h.rels hd
  have dig : ∀ {t r}, m.rs[t]? = some r → ds.getD t 0 < r.2.length := fun {t r} hr => by
    obtain ⟨h1, h2⟩ := za1 hd
    have ht := (Jr.1 hr).1
    have hs : (zL m)[t]? = some r.2.length := by
      unfold zL
      rw [Jq (by rw [QI]; exact ht), KR, hr]; rfl
    have hlen : t < ds.length := by rw [h1]; exact (Jr.1 hs).1
    rw [Jl, Ju hlen]
    exact h2 _ _ _ hs (Ju hlen)
  refine (zlH hr.rf).2 ⟨fun a b ha hb hab => ?_, fun b hb hrb => ⟨?_, fun i j hi hj h1 h2 => ?_⟩⟩
  · obtain ⟨t, r, h1, h2, h3, h4⟩ := (h.rfb hd).1 hab
    obtain ⟨e, g1, g2, g3⟩ := h.rs (JY h1)
    have hem : e ∈ (j6 init Ps).ev := by rw [← h.base]; exact JY g1
    have hel := zcC h.i6 h.P hem (.inl g2)
    rw [g3, h.wr.2 _ hel] at h2
    obtain ⟨m1, m2⟩ := QN.1 h2
    obtain ⟨a1, a2, a3⟩ := zeL.1 m1
    have eb : evA (zw m ds) b = e := by
      show m.base.ev.getD b ev0 = e
      rw [h4, Jl, g1]; rfl
    have m2 : (evA m.base a).v = e.v := KZ m2
    refine ⟨a2, ?_, ?_, ?_⟩
    · unfold isR
      rw [eb]; exact Un g2
    · rw [eb]
      exact Ub.1 a3
    · rw [eb]; exact m2
  · have hb : b < m.base.ev.length := hb
    have hev : m.base.ev[b]? = some (evA m.base b) := by
      unfold evA
      rw [Jl, Ju hb]; rfl
    have hk : (evA m.base b).k = 1 := KZ hrb
    obtain ⟨t, s, ht⟩ := zkc m.base.ev m.wr m.base.ev 0 b _ hev hk
    have ht : m.rs[t]? = some (0 + b, s) := by
      have e : m.rs = zbL m.base.ev m.wr 0 m.base.ev := by rw [h.m]; rfl
      rw [e]; exact ht
    rw [UM] at ht
    have hlt := dig ht
    have e2 : s[ds.getD t 0]? = some (s[ds.getD t 0]'hlt) := Ju hlt
    have hab : zh (zw m ds).rf (s[ds.getD t 0]'hlt) b = true := (h.rfb hd).2 ⟨t, (b, s), ht, JY e2, e2, rfl⟩
    exact ⟨_, (h.src (JY ht)).2.2 _ (JY e2), hab⟩
  · obtain ⟨t, r, g1, g2, g3, g4⟩ := (h.rfb hd).1 h1
    obtain ⟨t', r', k1, k2, k3, k4⟩ := (h.rfb hd).1 h2
    have et := h.rs_one g1 k1 (by omega)
    subst et
    rw [g1] at k1
    obtain rfl := Ua k1
    rw [g3] at k3
    exact Ua k3
theorem zp9 {sel : PathD → List (Nat × Nat)} : ∀ (Ps : List PathD) (k b i j : Nat), zc1 sel b Ps i j → ∃ P ∈ Ps, ∃ p ∈ sel P, ∃ (o t : Nat), i = b + o + p.1 ∧ j = b + o + p.2 ∧ ∀ q e, P.ev[q]? = some e → (jc k Ps)[o + q]? = some { e with th := t }
  | [], _, _, _, _, h => h.elim
  | P :: Ps, k, b, i, j, h => by
    rcases h with ⟨p, hp, h1, h2⟩ | h
    · refine ⟨P, Kx, p, hp, 0, k, h1, h2, fun q e he => ?_⟩
      have hq := (Jr.1 he).1
      show (jz k P.ev ++ jc (k + 1) Ps)[0 + q]? = _
      rw [UM, Jq (by unfold jz; rw [QI]; exact hq)]
      unfold jz
      rw [KR, he]; rfl
    · obtain ⟨Q, hQ, p, hp, o, t, h1, h2, h3⟩ := zp9 Ps (k + 1) _ _ _ h
      refine ⟨Q, JW _ hQ, p, hp, P.ev.length + o, t, by omega, by omega, fun q e he => ?_⟩
      show (jz k P.ev ++ jc (k + 1) Ps)[P.ev.length + o + q]? = _
      have hl : (jz k P.ev).length = P.ev.length := by unfold jz; rw [QI]
      rw [Jm (by omega), hl, show P.ev.length + o + q - P.ev.length = o + q by omega]
      exact h3 q e he
theorem ChoiceW.dep (h : ChoiceW init Ps m) (hd : ds ∈ qa (zL m)) : zaA (zw m ds) = true := by
  have hr := h.rels hd
  have h48 := zcy h (ds := ds)
  obtain ⟨d1, d2, d3⟩ := zdT (init := init) h.P
  have il : (qs 0 init).length = init.length := zX _ _
  have ends : ∀ {sel : PathD → List (Nat × Nat)} {i j : Nat}, zc1 sel init.length Ps i j → ∃ P ∈ Ps, ∃ p ∈ sel P, ∃ (o t : Nat), i = init.length + o + p.1 ∧ j = init.length + o + p.2 ∧ ∀ q e, P.ev[q]? = some e → evA (zw m ds) (init.length + o + q) = { e with th := t } ∧ (zw m ds).ev[init.length + o + q]? = some { e with th := t } := fun {sel i j} hD => by
    obtain ⟨P, hP, p, hp, o, t, h1, h2, h3⟩ := zp9 Ps 0 _ _ _ hD
    refine ⟨P, hP, p, hp, o, t, h1, h2, fun q e he => ?_⟩
    have e1 : (zw m ds).ev[init.length + o + q]? = some { e with th := t } := by
      show m.base.ev[_]? = _
      rw [h.base, zbh, Jm (by omega), il, show init.length + o + q - init.length = o + q by omega]
      exact h3 q e he
    refine ⟨?_, e1⟩
    unfold evA
    rw [Jl, e1]; rfl
  have po : ∀ {i j t : Nat} {a b : Ev}, (zw m ds).ev[i]? = some { a with th := t } → (zw m ds).ev[j]? = some { b with th := t } → i < j → zh (zw m ds).po i j = true := fun {i j t a b} h1 h2 hij => by
    have e : (zw m ds).po = poR (zw m ds).ev := by
      show m.base.po = poR m.base.ev
      rw [h.base]; rfl
    rw [e]
    refine (zmP _).2 ⟨_, h1, ?_, hij, (Jr.1 h2).1, ?_⟩
    · show ((t : Nat) : Int) ≠ -1
      omega
    · rw [Jl, h2]; rfl
  have bdt : ∀ {i j}, zh (zw m ds).dt i j = true → isR (zw m ds) i = true ∧ isW (zw m ds) j = true ∧ zh (zw m ds).po i j = true := fun {i j} hb => by
    have hb : zh m.base.dt i j = true := hb
    rw [h.base] at hb
    obtain ⟨P, hP, p, hp, o, t, rfl, rfl, h3⟩ := ends ((d1 _ _).1 hb)
    obtain ⟨a, b, g1, g2, g3, g4, g5⟩ := (h.P P hP).dt p hp
    obtain ⟨a1, a2⟩ := h3 _ _ g1
    obtain ⟨b1, b2⟩ := h3 _ _ g2
    refine ⟨?_, ?_, po a2 b2 (by omega)⟩
    · unfold isR; rw [a1]; exact Un g4
    · unfold isW; rw [b1]; exact Un g5
  have bct : ∀ {i j}, zh (zw m ds).ct i j = true → isR (zw m ds) i = true ∧ zh (zw m ds).po i j = true := fun {i j} hb => by
    have hb : zh m.base.ct i j = true := hb
    rw [h.base] at hb
    obtain ⟨P, hP, p, hp, o, t, rfl, rfl, h3⟩ := ends ((d2 _ _).1 hb)
    obtain ⟨a, b, g1, g2, g3, g4⟩ := (h.P P hP).ct p hp
    obtain ⟨a1, a2⟩ := h3 _ _ g1
    obtain ⟨b1, b2⟩ := h3 _ _ g2
    refine ⟨?_, po a2 b2 (by omega)⟩
    unfold isR; rw [a1]; exact Un g4
  have brm : ∀ {i j}, zh (zw m ds).rm i j = true → isR (zw m ds) i = true ∧ isW (zw m ds) j = true ∧ zh (zw m ds).po i j = true ∧ j = i + 1 ∧ (evA (zw m ds) j).l = (evA (zw m ds) i).l := fun {i j} hb => by
    have hb : zh m.base.rm i j = true := hb
    rw [h.base] at hb
    obtain ⟨P, hP, p, hp, o, t, rfl, rfl, h3⟩ := ends ((d3 _ _).1 hb)
    obtain ⟨a, b, g1, g2, g3, g4, g5, g6⟩ := (h.P P hP).rm p hp
    obtain ⟨a1, a2⟩ := h3 _ _ g1
    obtain ⟨b1, b2⟩ := h3 _ _ g2
    refine ⟨?_, ?_, po a2 b2 (by omega), by omega, ?_⟩
    · unfold isR; rw [a1]; exact Un g4
    · unfold isW; rw [b1]; exact Un g5
    · rw [a1, b1]; exact g6.symm
  unfold zaA
  have hs := zkS h48 hr.po hr.dt hr.ct hr.rm (zw m ds).ev.length 0 0 (UM _)
  rw [Uh] at hs
  refine hs.2 ⟨fun k _ hk => ⟨fun j hj => ?_, fun j hj => ?_, fun i j hi hj => ?_, fun j hj => ?_⟩, fun k j _ _ _ => QA _, fun k k' j _ hkk _ h1 h2 => ?_⟩
  · rcases hj with hj | hj
    · exact (bdt hj).2.1
    · exact (brm hj).2.1
  · rcases hj with hj | hj | hj
    · exact ⟨(bdt hj).1, (bdt hj).2.2⟩
    · exact bct hj
    · exact ⟨(brm hj).1, (brm hj).2.2.1⟩
  · have := (brm hi).2.2.2.1
    have := (brm hj).2.2.2.1
    omega
  · exact (brm hj).2.2.2.2
  · have := (brm h1).2.2.2.1
    have := (brm h2).2.2.2.1
    omega
theorem ChoiceW.right (h : ChoiceW init Ps m) (hd : ds ∈ qa (zL m)) : jb (zw m ds) = true := by
  have hin : qG (zw m ds).ev = init.length := h.inits
  have hr := h.rels hd
  unfold jb
  rw [hin]
  simp only [Qe]
  refine ⟨Un (zcy h), Un h.i1, Un h.i6, h.evs, ?_, ?_, h.rf hd, h.co hd, h.dep hd⟩
  · unfold zaM
    rw [Qg]
    have one : ∀ {r : RelD}, RelOk (zw m ds).ev.length r → (decide (r.n = (zw m ds).ev.length) && okR r) = true := fun {r} h => by
      rw [Qe]
      exact ⟨Un h.n, h.ok⟩
    intro r hr2
    simp only [Uy, Qs, Gf] at hr2
    rcases hr2 with rfl | rfl | rfl | rfl | rfl | rfl
    · exact one hr.po
    · exact one hr.rf
    · exact one hr.co
    · exact one hr.dt
    · exact one hr.ct
    · exact one hr.rm
  · have e : (zw m ds).po = poR (zw m ds).ev := by
      show m.base.po = poR m.base.ev
      rw [h.base]; rfl
    rw [e]
    exact zgB _
end
def zuf (R:RunD):List Ev:=(List.range R.many).map R.ev
def zfX (t:Nat) (l:List Ev):List Ev:=(l.filter fun e=>decide (e.th=(t:Int))).map fun e=>{ e with th:=0 }
theorem zmV (t:Nat) (a b:List Ev):zfX t (a++b)=zfX t a++zfX t b:=by
 unfold zfX;rw [Kt,QL]
theorem zkl {t:Nat} {l:List Ev} (h:∀ e∈l,e.th≠(t:Int)):zfX t l=[]:=by
 unfold zfX;rw [JC.2 fun e he=>by simpa using h e he];rfl
theorem zs8 {t k:Nat} {l:List Ev} (h:∀ e∈l,e.th=0):zfX t (jz k l)=if k=t then l else []:=by
 by_cases e:k=t
 ·subst e;rw [Gi rfl];unfold zfX jz;rw [List.filter_eq_self.2 fun a ha=>by
   obtain⟨b,_,rfl⟩:=UF.1 ha;exact Un rfl,UD]
  conv=>rhs;rw [<- List.map_id l]
  refine Ki fun a ha=>?_;have:=h a ha
  cases a
  simp_all
 ·rw [Gh e];refine zkl fun a ha=>?_;obtain⟨b,_,rfl⟩:=UF.1 ha;show ((k:Nat):Int)≠(t:Nat);omega
theorem zkm (t:Nat):∀ (Ps:List PathD) (k:Nat),(∀ P∈Ps,∀ e∈P.ev,e.th=0)->zfX t (jc k Ps)=if k<=t then (match Ps[t-k]? with | some P=>P.ev | none=>[]) else []
 | [],k,_=>by
  have e:zfX t (jc k [])=[]:=rfl;rw [e]
  split <;> simp
 | P::Ps,k,h=>by
  show zfX t (jz k P.ev++jc (k+1) Ps)=_;rw [zmV,zs8 (h P Kx),zkm t Ps (k+1) fun Q hQ=>h Q (JW _ hQ)];by_cases e:k=t
  ·subst e;rw [Gi rfl,Gh (by omega),Gi (UR _),UK,QF];rfl
  ·rw [Gh e,QO];by_cases h1:k<=t
   ·rw [Gi (by omega),Gi h1];obtain⟨d,hd⟩:∃ d,t-k=d+1:=⟨t-k-1,by omega⟩;rw [hd,show t-(k+1)=d by omega,Jv]
   ·rw [Gh (by omega),Gh h1]
theorem zka:∀ (Ps:List PathD) (k:Nat) (x:ExD) (i:Nat),(asR k Ps x).regs i=if k<=i/8 then (match Ps[i/8-k]? with | some P=>P.regs (i%8) | none=>x.regs i) else x.regs i
 | [],k,x,i=>by
  show x.regs i=_
  split <;> simp
 | P::Ps,k,x,i=>by
  show (asR (k+1) Ps (zbs x k P)).regs i=_;rw [zka Ps (k+1)];have e:(zbs x k P).regs i=if i/8=k then P.regs (i%8) else x.regs i:=rfl
  rw [e];by_cases h:i/8=k
  ·rw [Gh (by omega),Gi h,Gi (by omega),h,UK];rfl
  ·rw [Gh h];by_cases h1:k<=i/8
   ·rw [Gi (by omega),Gi h1];obtain⟨d,hd⟩:∃ d,i/8-k=d+1:=⟨i/8-k-1,by omega⟩;rw [hd,show i/8-(k+1)=d by omega,Jv]
   ·rw [Gh (by omega),Gh h1]
theorem zi7:∀ (Ts:List (List PathD)) (ds:List Nat),ds.length=Ts.length->(∀ (i n d:Nat),(Ts.map List.length)[i]?=some n->ds[i]?=some d->d<n) ->
  (qE Ts ds).length=Ts.length/\∀ (t:Nat) (T:List PathD) (d:Nat),Ts[t]?=some T->ds[t]?=some d->(qE Ts ds)[t]?=T[d]?
 | [],[],_,_=>⟨rfl,fun t T d h=>by simp at h⟩
 | [],d::ds,h,_=>by cases h
 | T::Ts,[],h,_=>by cases h
 | T::Ts,d::ds,h,hb=>by
  have hd:d<T.length:=hb 0 T.length d rfl rfl;obtain⟨h1,h2⟩:=zi7 Ts ds (by simpa using h) fun i n d' a b=>hb (i+1) n d' a b;have e:qE (T::Ts) (d::ds)=T[d]::qE Ts ds:=by
   show (match T[d]? with | some P=>[P] | none=>[])++qE Ts ds=_;rw [gE hd];rfl
  rw [e];refine⟨by rw [Qp,Qp,h1],fun t U d' hU hd'=>?_⟩
  cases t with
  | zero =>
   have hU:=Ua hU;have hd':=Ua hd';subst hU hd';exact (gE hd).symm
  | succ t =>
   rw [Jv];exact h2 t U d' hU hd'
section
variable {p:Prg} {V:List UInt8}
theorem ziF (hO:OkG p) {m:MixD} {ds:List Nat} (hds:ds∈qa ((p.threads.map (zH V)).map List.length)) (hm:zg5 p.init (qE (p.threads.map (zH V)) ds)=some m) :
  ChoiceW p.init (qE (p.threads.map (zH V)) ds) m/\ds.length=p.threads.length/\∀ (t:Nat) (l:List InsD),p.threads[t]?=some l->∃ d,ds[t]?=some d/\∃ R,(qA l V)[d]?=some R/\(qE (p.threads.map (zH V)) ds)[t]?=some (j4 R)/\zfX t m.base.ev=zuf R/\∀ j,j<8->m.base.regs (8*t+j)=R.regs j:=by
 obtain⟨h1,h2⟩:=za1 hds;rw [QI,QI] at h1;obtain⟨g1,g2⟩:=zi7 (p.threads.map (zH V)) ds (by rw [QI];exact h1) h2;unfold zg5 at hm
 split at hm
 case isFalse=>cases hm
 rename_i h48;have hm:=Ua hm;have hw:∀ P∈qE (p.threads.map (zH V)) ds,PathW p.init.length P:=fun P hP=>by
  obtain⟨T,hT,h2⟩:=zdD _ _ _ hP;obtain⟨l,hl,rfl⟩:=UF.1 hT;exact zgK hO hl h2
 have hC:ChoiceW p.init (qE (p.threads.map (zH V)) ds) m:=⟨hO.i1,hO.i6,by
  rw [g1,QI];have:=hO.t4;omega,hw,h48,hm.symm⟩
 refine⟨hC,h1,fun t l hl=>?_⟩;have ht:t<ds.length:=by rw [h1];exact (Jr.1 hl).1
 have hT:(p.threads.map (zH V))[t]?=some (zH V l):=by rw [KR,hl];rfl
 have hd:ds[t]?=some ds[t]:=gE ht;have hlt:ds[t]<(qA l V).length:=by
  have:=h2 t (zH V l).length ds[t] (by rw [KR,hT];rfl) hd;have e:(zH V l).length=(qA l V).length:=QI ..;omega
 have hR:(qA l V)[ds[t]]?=some (qA l V)[ds[t]]:=gE hlt;have hP:(qE (p.threads.map (zH V)) ds)[t]?=some (j4 (qA l V)[ds[t]]):=by
  rw [g2 t _ _ hT hd];show ((qA l V).map j4)[ds[t]]?=_;rw [KR,hR];rfl
 have hth:∀ P∈qE (p.threads.map (zH V)) ds,∀ e∈P.ev,e.th=0:=fun P hP e he=>by
  obtain⟨q,hq⟩:=List.mem_iff_getElem?.1 he;exact ((hw P hP).ev q e hq).1
 refine⟨ds[t],hd,(qA l V)[ds[t]],hR,hP,?_,fun j hj=>?_⟩
 ·rw [hC.base,zbh,zmV,zkm t _ 0 hth,Gi (UU _),UL,hP,zkl,QO]
  ·rfl
  ·intro e he;obtain⟨i,hi,rfl⟩:=Kg he;rw [zX] at hi;have:=zbc p.init 0 hi;rw [gE (by rw [zX];exact hi)] at this;rw [Ua this];show (-1:Int)≠(t:Nat);omega
 ·have e:m.base.regs=(asR 0 (qE (p.threads.map (zH V)) ds) { ex0 (zbt p.init.length (qE (p.threads.map (zH V)) ds)) with ev:=qs 0 p.init }).regs:=by rw [hC.base];rfl
  have e1:(8*t+j)/8=t:=by omega
  have e2:(8*t+j)%8=j:=by omega
  rw [e,zka,e1,e2,Gi (UU _),UL,hP];rfl
end
def znx (P:PathD):Prop:=∀ i j,i<j->j<P.ev.length->(P.ev.getD i ev0).k≠3->(P.ev.getD j ev0).k≠3->(∃ f,i<f/\f<j/\(P.ev.getD f ev0).k=3/\(P.ev.getD f ev0).m=3)\/((i,j)∈P.rmw/\(P.ev.getD i ev0).m=3)
theorem zlP {R:RunD} (h:FncE R) (hm:R.many<=24):znx (j4 R):=fun i j hij hj hki hkj=>by
 have hl:(j4 R).ev.length=R.many:=by
  show ((List.range R.many).map R.ev).length=_;rw [QI,KS]
 rw [hl] at hj;have hg:∀ i,i<R.many->(j4 R).ev.getD i ev0=R.ev i:=fun i hi=>by
  show ((List.range R.many).map R.ev).getD i ev0=_;rw [gDe,KR,Kf hi];rfl
 rw [hg i (by omega)] at hki ⊢;rw [hg j hj] at hkj;rcases h i j hij hj hki hkj with ⟨f,h1,h2,h3,h4⟩ | ⟨h1,h2⟩
 ·exact .inl ⟨f,h1,h2,by rw [hg f (by omega)];exact h3,by rw [hg f (by omega)];exact h4⟩
 ·refine .inr ⟨?_,h2⟩;show (i,j)∈zcc R.att R.many;exact List.mem_flatMap.2 ⟨j,Uj.2 hj,UF.2 ⟨i,qM.2 ⟨by omega,h1⟩,rfl⟩⟩
theorem zhm:∀ (Ps:List PathD) (k b:Nat),(∀ P∈Ps,znx P)->∀ a c,a<c->c<(jc k Ps).length->((jc k Ps).getD a ev0).th=((jc k Ps).getD c ev0).th->((jc k Ps).getD a ev0).k≠3->((jc k Ps).getD c ev0).k≠3 ->
  (∃ f,a<f/\f<c/\((jc k Ps).getD f ev0).th=((jc k Ps).getD a ev0).th/\((jc k Ps).getD f ev0).k=3/\((jc k Ps).getD f ev0).m=3)\/(zc1 PathD.rmw b Ps (b+a) (b+c)/\((jc k Ps).getD a ev0).m=3)
 | [],k,b,_,a,c,_,hc,_,_,_=>by cases hc
 | P::Ps,k,b,hP,a,c,hac,hc,hth,hka,hkc=>by
  have hlen:(jz k P.ev).length=P.ev.length:=QI ..;have e:jc k (P::Ps)=jz k P.ev++jc (k+1) Ps:=rfl;rw [e] at hc hth hka hkc ⊢;rw [lap,hlen] at hc;have gl:∀ i,i<P.ev.length->(jz k P.ev++jc (k+1) Ps).getD i ev0={ P.ev.getD i ev0 with th:=(k:Int) }:=fun i hi=>by
   rw [gDe,Jq (by omega)];unfold jz;rw [KR,gDe,gE hi];rfl
  have gr:∀ i,P.ev.length<=i->(jz k P.ev++jc (k+1) Ps).getD i ev0=(jc (k+1) Ps).getD (i-P.ev.length) ev0:=fun i hi=>by
   rw [gDe,Jm (by omega),hlen,gDe]
  by_cases ha:a<P.ev.length
  ·rw [gl a ha] at hth hka ⊢;by_cases hcl:c<P.ev.length
   ·rw [gl c hcl] at hkc;rcases hP P Kx a c hac hcl hka hkc with ⟨f,h1,h2,h3,h4⟩ | ⟨h1,h2⟩
    ·exact .inl ⟨f,h1,h2,by rw [gl f (by omega)],by rw [gl f (by omega)];exact h3,by rw [gl f (by omega)];exact h4⟩
    ·exact .inr ⟨.inl ⟨(a,c),h1,rfl,rfl⟩,h2⟩
   ·rw [gr c (by omega)] at hth;have hlt:c-P.ev.length<(jc (k+1) Ps).length:=(by omega);have hmem:(jc (k+1) Ps).getD (c-P.ev.length) ev0∈jc (k+1) Ps:=by
     rw [gDe,gE hlt];exact gM hlt
    obtain⟨_,_,_,_,t,ht,_,he⟩:=zdm Ps (k+1) _ hmem;rw [he] at hth;have hth:(k:Int)=(t:Int):=hth;omega
  ·rw [gr a (by omega)] at hth hka ⊢;rw [gr c (by omega)] at hth hkc;rcases zhm Ps (k+1) (b+P.ev.length) (fun Q hQ=>hP Q (JW _ hQ)) (a-P.ev.length) (c-P.ev.length) (by omega) (by omega) hth hka hkc with ⟨f,h1,h2,h3,h4,h5⟩ | ⟨h1,h2⟩
   ·refine .inl ⟨f+P.ev.length,by omega,by omega,?_⟩;rw [gr (f+P.ev.length) (by omega),Nat.add_sub_cancel];exact⟨h3,h4,h5⟩
   ·refine .inr ⟨.inr ?_,h2⟩;rw [show b+P.ev.length+(a-P.ev.length)=b+a by omega,show b+P.ev.length+(c-P.ev.length)=b+c by omega] at h1;exact h1
section
variable {init:List UInt8} {Ps:List PathD} {m:MixD} {ds:List Nat}
theorem ChoiceW.fenced (h:ChoiceW init Ps m) (hF:∀ P∈Ps,znx P) (hd:ds∈qa (zL m)) (hX:XOk (zw m ds)):zgn (zw m ds):=fun a c ha hp aa ac=>by
 obtain⟨p1,p2,p3,p4⟩:=(zgH hX ha).1 hp;have hev:(zw m ds).ev=qs 0 init++jc 0 Ps:=by
  show m.base.ev=_;rw [h.base,zbh]
 have hl0:(qs 0 init).length=init.length:=zX ..;have hlen:(zw m ds).ev.length=init.length+(jc 0 Ps).length:=by rw [hev,lap,hl0]
 have gi:∀ i,i<init.length->(evA (zw m ds) i).th = -1:=fun i hi=>by
  have:evA (zw m ds) i=evA m.base i:=rfl;rw [this,h.ini hi]
 have ge:∀ i,init.length<=i->evA (zw m ds) i=(jc 0 Ps).getD (i-init.length) ev0:=fun i hi=>by
  unfold evA;rw [hev,gDe,Jm (by omega),hl0,gDe]
 have hai:init.length<=a:=Nat.le_of_not_lt fun hlt=>p1 (gi a hlt);have kacc:∀ i,zaj (zw m ds) i=true->(evA (zw m ds) i).k≠3:=fun i hi e=>by
  unfold zaj isR isW at hi;rw [e] at hi;exact Gj hi (by decide)
 have ka:=kacc a aa;have kc:=kacc c ac;rw [ge a hai] at ka;rw [ge c (by omega)] at kc;have hth:((jc 0 Ps).getD (a-init.length) ev0).th=((jc 0 Ps).getD (c-init.length) ev0).th:=by
  rw [<- ge a hai,<- ge c (by omega)];exact p4.symm
 rcases zhm Ps 0 init.length hF (a-init.length) (c-init.length) (by omega) (by omega) hth ka kc with ⟨f,h1,h2,h3,h4,h5⟩ | ⟨h1,h2⟩
 ·have hf:init.length<=f+init.length:=by omega
  have e:=ge (f+init.length) hf;rw [Nat.add_sub_cancel] at e;have hfl:f+init.length<(zw m ds).ev.length:=by omega
  have hft:(evA (zw m ds) (f+init.length)).th=(evA (zw m ds) a).th:=by rw [e,h3,<- ge a hai]
  exact .inl ⟨f+init.length,hfl,by rw [e];exact h4,by rw [e];exact h5,(zgH hX ha).2 ⟨p1,by omega,hfl,hft⟩,(zgH hX hfl).2 ⟨by rw [hft];exact p1,by omega,p3,by rw [p4,hft]⟩⟩
 ·right;rw [show init.length+(a-init.length)=a by omega,show init.length+(c-init.length)=c by omega] at h1;obtain⟨_,_,d3⟩:=zdT h.P;refine⟨?_,by rw [ge a hai];exact h2⟩;show zh m.base.rm a c=true;rw [h.base];exact (d3 a c).2 h1
end
theorem zjw {p:Prg} {V:List UInt8} (hO:OkG p) (hf:∀ l∈p.threads,∃ xs,l=qm xs/\∀ x∈xs,x.op≠8) {x:ExD} (hx:x∈jd p V) (hw:WX x) (hr:jb x=true) {k:Nat} (h3:3<=k) (h6:k<=6):zaY k x=zaY 2 x:=by
 have hX:=zoG hw hr;obtain⟨m,hm,hx⟩:=List.mem_flatMap.1 hx;unfold qN at hx
 split at hx
 ·cases hx
 obtain⟨d,hd,he⟩:=List.mem_filterMap.1 hm;obtain⟨ds,hds,rfl⟩:=UF.1 hx;obtain⟨hC,_,_⟩:=ziF hO hd he;have hPF:∀ P∈qE (p.threads.map (zH V)) d,znx P:=fun P hP=>by
  obtain⟨T,hT,h2⟩:=zdD _ _ _ hP;obtain⟨l,hl,rfl⟩:=UF.1 hT;obtain⟨R,hR,rfl⟩:=UF.1 h2;obtain⟨xs,rfl,h8⟩:=hf l hl;have hth:=zoX (hO.tl _ hl);exact zlP (zl4 (fun x hx=>⟨(hth x (List.mem_flatMap.2 ⟨x,hx,by simp⟩)).1,h8 x hx⟩) V R hR) ((zeT (ziR (hO.th _ hl)) V R hR).1)
 have hF:=hC.fenced hPF hds hX;have hk:∀ i,i<(zw m ds).ev.length->isR (zw m ds) i=true->(evA (zw m ds) i).th ≠ -1:=fun i hi hri hth=>by
  have hii:i<p.init.length:=by
   refine Qw fun hge=>?_;have hev:(zw m ds).ev=qs 0 p.init++jc 0 (qE (p.threads.map (zH V)) d):=by
    show m.base.ev=_;rw [hC.base,zbh]
   have hlt:i-p.init.length<(jc 0 (qE (p.threads.map (zH V)) d)).length:=by
    have:(zw m ds).ev.length=p.init.length+(jc 0 (qE (p.threads.map (zH V)) d)).length:=(by rw [hev,lap,zX]);omega
   have e:evA (zw m ds) i=(jc 0 (qE (p.threads.map (zH V)) d)).getD (i-p.init.length) ev0:=by
    unfold evA;rw [hev,gDe,Jm (by rw [zX];exact hge),zX,gDe]
   have hmem:(jc 0 (qE (p.threads.map (zH V)) d)).getD (i-p.init.length) ev0∈jc 0 (qE (p.threads.map (zH V)) d):=by
    rw [gDe,gE hlt];exact gM hlt
   obtain⟨_,_,_,_,t,_,_,he2⟩:=zdm _ 0 _ hmem;rw [e,he2] at hth;have hth:((t:Nat):Int) = -1:=hth;omega
  have h1:evA (zw m ds) i=evA m.base i:=rfl;have h2:(evA (zw m ds) i).k=1:=dT hri;rw [h1,hC.ini hii] at h2
  cases h2
 have hs:=zkM hX hF hk h3 h6;unfold zaY zab;rw [Un (by omega:1<=k),Un h6,hr];show (true&&(true&&decide (j3 k (zw m ds)=0)))=(true&&(true&&decide (j3 2 (zw m ds)=0)));rw [QB.2 hs]
def zb7 (p:Prg) (V:List UInt8) (most:Nat):Bool :=
 zdf p&&(decide (zdz p=some V)&&((p.threads.all fun l=>decide ((qA l V).length<=4096))&&(((List.range (p.threads.length+1)).all fun k=>decide (zbv ((p.threads.take k).map fun l=>(zH V l).length)<=4096)) &&
  (((qa ((p.threads.map (zH V)).map List.length)).all fun ds=>(zg5 p.init (qE (p.threads.map (zH V)) ds)).isSome)&&decide (((qi p V).map fun m=>jv m 20001).sum<=most)))))
theorem zoy {p:Prg} {V:List UInt8} {most:Nat} (h:zb7 p V most=true):zdf p=true/\zdx p V most:=by
 unfold zb7 at h;simp only [bAT,dE,Qg,Uj] at h;obtain⟨h1,h2,h3,h4,h5,h6⟩:=h;exact⟨h1,h2,⟨h3,fun k hk=>h4 k (by omega),h5⟩,h6⟩
section
variable {w:Wd} {B most:Nat} {pc:List Value} {p:Prg} {V:List UInt8}
theorem zqK (hB:B<=w.heap.size) (hP:PrgX B w pc p) (hG:GlobE w) (hm20:most<=20000) (hq:zb7 p V most=true) :
  Calls PG 12 #[.agg pc.toArray,i64 most] w fun e w'=>(∃ (xs:List zbV) (q:OA) (c:Nat),e = .returned (.tuple #[.slice q xs.length c,i64 0])/\xs.map (·.1)=jd p V/\OwnS exE 46 w.heap.size w' q c xs/\∀ x∈xs,OwnS evE 49 w.heap.size w' x.2.1 x.2.2 x.1.ev)/\Bw w w':=by
 obtain⟨hok,hc⟩:=zoy hq;refine cmo (zlk hB hP hG hok hm20 fun V _=>zk7 (zga hok)) ?_;rintro e X ⟨(⟨V',h1,h2⟩ | ⟨h1,_⟩),hb⟩
 ·have:V'=V:=by
   have e1:=h1.1;rw [hc.1] at e1;exact (Ua e1).symm
  subst this;exact⟨h2,hb⟩
 ·exact Gj hc (h1 V)
end
def stI (l v m:UInt8):InsD:=⟨2,0,l,false,v,false,0,0,m,0⟩
def ldI (d l m:UInt8):InsD:=⟨1,d,l,false,0,false,0,0,m,0⟩
end Go.Proofs.YtkpaomeeknegpaaGreatDoor
