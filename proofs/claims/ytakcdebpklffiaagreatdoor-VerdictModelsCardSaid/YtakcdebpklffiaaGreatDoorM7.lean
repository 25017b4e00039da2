/- Contracts of functions, and plain facts, for the law that the last text of this claim proves. -/
import Derived.Test.YtakcdebpklffiaaGreatDoorM3
import Derived.Test.YtakcdebpklffiaaGreatDoorM6
import Derived.Test.YtakcdebpklffiaaGreatDoorM4
import Derived.Test.YtakcdebpklffiaaGreatDoorM2
import Derived.Test.YtakcdebpklffiaaGreatDoorM5
set_option linter.unusedSimpArgs false
set_option linter.unusedVariables false
namespace Go.Proofs.YtakcdebpklffiaaGreatDoor
open Go.Vc Go.RowKit Go.Sei
section
variable{l:List InsD}{vals:List UInt8}{q p:OA}{cap cd:Nat}{w:Wd}
theorem zt7(hl:SlR zU w q l)(hp:SlR zS w p vals)(hv1:1<=vals.length)(hvm:vals.length<=60000)(hok:qI l 6=true)(hG:GlobE w)(hqb:l≠[]->∀a,q=some a->a.block<w.heap.size) :
  Calls PG 64 #[.slice q l.length cap,.slice p vals.length cd,i64 4096] w fun e w'=>((∃(xs:List zep) (p':OA) (c':Nat),(qB l (ju vals)).length<=4096/\e = .returned (.tuple #[.slice p' xs.length c',i64 0])/\xs.map (·.1)=(qB l (ju vals)).map jN/\OwnS j7 145 w.heap.size w' p' c' xs/\∀x∈xs,PthO w.heap.size w' x)\/(4096<(qB l (ju vals)).length/\e = .returned (.tuple #[.slice none 0 0,i64 5])))/\Bw w w':=by
 have ht:=zkO hok;have cu:l.length<=12:=ht.1;refine qA 45 [.slice q l.length cap,.slice p vals.length cd,i64 4096] (.c .p (.s .p (.c .p (.c .p (.c .p (.c .p .p)))))) Tryz.func64 ?_;obtain⟨L,hL⟩:=nm (w.heap.size);refine⟨Unit,fun _=>⟨[(0,.slice q l.length cap),(1,.slice p vals.length cd),(5,AtR L),(6,AtR (L+1)),(7,AtR (L+2))],[]⟩,fun _ X=>X.heap[L]?=some (.cells #[i64 4096] 3 (0,0))/\X.heap[L+1]?=some (.cells #[.slice none 0 0] 101 (0,0))/\X.heap[L+2]?=some (.cells #[i64 0] 33 (0,0))/\X.heap.size=L+3/\Bw w X,?_,?_⟩
 ·have s1:=wz w (.cells #[i64 4096] 3);have h2:=zt (w.alloc (.cells #[i64 4096] 3)) (.cells #[.slice none 0 0] 101);have s2:=wz (w.alloc (.cells #[i64 4096] 3)) (.cells #[.slice none 0 0] 101);have h3:=zt ((w.alloc (.cells #[i64 4096] 3)).alloc (.cells #[.slice none 0 0] 101)) (.cells #[i64 0] 33);have s3:=wz ((w.alloc (.cells #[i64 4096] 3)).alloc (.cells #[.slice none 0 0] 101)) (.cells #[i64 0] 33);rw[s1] at h2 s2;rw[s2] at h3 s3;refine⟨(),⟨.cons rfl (.cons rfl (.cons (by rw[hL];rfl) (.cons (by rw[hL,<- s1];rfl) (.cons (by rw[hL,<- s2];rfl) .nil)))),rfl⟩,?_,?_,?_,?_,?_⟩
  ·rw[hL];exact qO _ (qO _ (zt w _))
  ·rw[hL];exact qO _ h2
  ·rw[hL];exact h3
  ·rw[hL];exact s3
  ·exact(((zba w _)).alloc (by simp) _).alloc (by simp;omega) _
 rintro _ X ⟨f0,f1,f2,sX,a7⟩;refine⟨_,zc (za f0) (i:=0) rfl,brF ⟨_,zc (za f0) (i:=0) rfl,brF (cmo (zuq (hl.below a7) (hG.c.below a7) (by omega)) ?_)⟩⟩;rintro e Y ⟨rfl,am⟩;rw[hok];refine brF ?_;have ak:=zst a7 am;have f0:=zb am f0;have f1:=zb am f1;have f2:=zb am f2;have sY:=am.size;obtain⟨D,hD⟩:=nm (ju vals);have cr:D.length<=256:=by rw[hD];exact zeI vals
 have hR:∀R∈qB l D,R.many<=24/\zyf R:=fun R h=>⟨(zhN ht D R h).1,fun i _=>(zhN ht D R h).2 i⟩;rw[<- hD];refine⟨OA×Nat,fun s=>⟨[(0,.slice q l.length cap),(1,.slice s.1 D.length s.2),(5,AtR L),(6,AtR (L+1)),(7,AtR (L+2))],[]⟩,fun s Z=>OwnS zS 5 (L+3) Z s.1 s.2 D/\Bw Y Z,?_,?_⟩
 ·refine cmo (zeh (hp.below ak) hv1 hvm) ?_;rintro e Z ⟨⟨d,cc,rfl,ho⟩,ap⟩;rw[<- hD] at ho;exact⟨(d,cc),⟨.cons rfl (.cons (by rw[hD];rfl) (.cons rfl (.cons rfl (.cons rfl .nil)))),rfl⟩,OwnS.lower ho (by omega),ap⟩
 rintro⟨d,cc⟩ Z ⟨oD,ap⟩;dsimp only at oD ⊢;have bl:=zst ak ap;have f0:=zb ap f0;have f1:=zb ap f1;have f2:=zb ap f2;have sZ:=ap.size;obtain⟨N,hN⟩:=nm (Z.heap.size);refine⟨Unit,fun _=>⟨[(0,.slice q l.length cap),(1,.slice d D.length cc),(5,AtR L),(6,AtR (L+1)),(7,AtR (L+2)),(8,AtR N)],[]⟩,fun _ V=>V.heap[N]?=some (.cells [i64 0].toArray 3 (0,0))/\V.heap.size=N+1/\Bw Z V,?_,?_⟩
 ·exact zo (X:=Z) (v:=i64 0) k3 rfl rfl rfl fun V aa fV sV=>⟨(),⟨.cons rfl (.cons rfl (.cons rfl (.cons rfl (.cons rfl (.cons (by rw[hN];rfl) .nil))))),rfl⟩,by rw[hN];exact fV,by rw[hN];exact sV,aa⟩
 rintro _ V ⟨fN,sV,aa⟩;have ao:=zst bl aa;have f0:=zb aa f0;have f1:=zb aa f1;have f2:=zb aa f2;have aj:∀a,d=some a->a.block<N:=fun a f=>by rw[hN];exact(za9 oD f).2.1
 have oD:=oD.below aa;have cl:w.heap.size<=N:=by rw[hN];exact bl.size
 have cs:L+3<=N:=by omega
 obtain⟨ad,av⟩:=nm (qB l D);rw[<- av] at hR ⊢;have b7:∀a,d=some a->L+3<=a.block:=fun a f=>(za9 oD f).1;refine⟨Nat,fun D1=>⟨[(0,.slice q l.length cap),(1,.slice d D.length cc),(5,AtR L),(6,AtR (L+1)),(7,AtR (L+2)),(8,AtR N)],[{ target := .collected D1,args := #[] }]⟩,fun D1 U=>ad.length<=4096/\U.heap[N]?=some (.cells #[i64 ad.length] 3 (0,0))/\U.heap[D1]?=some (.deferred (some []))/\N<D1/\V.grownBy U (some N),?_,?_⟩
 ·refine cmo zls ?_;rintro e W ⟨rfl,fi,fd,sW,u⟩;have ab:=zst ao u;have b5:=zb u fN;have bq:=zb u f0;have bv:=zb u f1;have bn:=zb u f2;have ba:l≠[]->∀a,q=some a->a.block<w.heap.size:=hqb;have hI:=zlr (q:=q) (p:=d) (hl.below ab) (oD.below u).row fi fd (fun z a f=>by have:=ba z a f;have:=ab.size;omega) (fun a f=>by have:=aj a f;omega) ht (by omega);rw[<- av] at hI;obtain⟨F0,aq⟩:∃F0:Nat->Prop,F0=fun k=>k=N\/k=L+1\/k=L+2:=⟨_,rfl⟩;refine zdW (zgn _) rfl (lb := #[AtR V.heap.size,AtR (V.heap.size+1)]) rfl rfl hI (UW _) (fun k hk=>⟨?_,rfl⟩) (fun j vs W ⟨R,b,_,h,_⟩=>by rw[h];rfl) (by decide)
   F0 (fun j F Y=>F=F0/\W.heap.size<=Y.heap.size/\j.length<=4096/\Y.heap[N]?=some (.cells [i64 j.length].toArray 3 (0,0))/\W.grownBy Y (some N))
   (fun ex j F Y=>F=F0/\W.heap.size<=Y.heap.size/\ex = .ret/\4096<ad.length/\Y.heap[L+1]?=some (.cells #[.slice none 0 0] 101 (0,0))/\Y.heap[L+2]?=some (.cells #[i64 5] 33 (0,0))/\Below L W Y) (fun k hk=>?_)
   (joG (F:=F0) (J:=fun(j:List RunD) Y=>W.heap.size<=Y.heap.size/\j.length<=4096/\Y.heap[N]?=some (.cells [i64 j.length].toArray 3 (0,0))/\W.grownBy Y (some N)) (fun k h=>by rw[aq] at h;omega) (fun s A h=>h.1) (fun j A B ⟨h1,h2,h3,h4⟩ hb=>⟨UL h1 hb.size,h2,jA hb (by omega) h3,jD h4 hb⟩))
   (fun ex=>joG (F:=F0) (J:=fun(j:List RunD) Y=>W.heap.size<=Y.heap.size/\ex = .ret/\4096<ad.length/\Y.heap[L+1]?=some (.cells #[.slice none 0 0] 101 (0,0))/\Y.heap[L+2]?=some (.cells #[i64 5] 33 (0,0))/\Below L W Y) (fun k h=>by rw[aq] at h;omega) (fun s A h=>h.1) (fun j A B ⟨h1,h2,h3,h4,h5,h6⟩ hb=>⟨UL h1 hb.size,h2,h3,jA hb (by omega) h4,jA hb (by omega) h5,h6.trans (hb.mono (by omega))⟩))
   ⟨rfl,UW _,UZ _,b5,qo _ _⟩ ?_ ?_ ?_
  ·rcases hk with((rfl | rfl) | ⟨z,a,f,rfl⟩ | ⟨a,f,rfl⟩) | h
   ·omega
   ·omega
   ·have:=ba z a f;have:=ab.size;omega
   ·have:=aj a f;omega
   ·exact h.elim
  ·rw[aq];rcases hk with(rfl | rfl) | ⟨z,a,f,rfl⟩ | ⟨a,f,rfl⟩
   ·omega
   ·omega
   ·have:=ba z a f;omega
   ·have:=aj a f;have:=b7 a f;omega
  ·rintro yl j x vs F Y b2 ag hJ ⟨R',b',_,rfl,_⟩ b9 a3;refine⟨rfl,F,KeepsG.refl _ _,hJ,?_⟩;rintro o Y2 bu ⟨rfl,h1,h4,h2,h3⟩;have ca:j.length<ad.length:=by
    obtain⟨t,ht⟩:=ag;rw[<- ht];simp only[lap,Qp];omega
   have g0:Y2.heap[L]?=some (.cells #[i64 4096] 3 (0,0)):=(h3.block L (hlt bq) (by simp;omega)).trans bq;refine⟨_,zc (za h2) (i:=0) rfl,_,zc (za g0) (i:=0) rfl,biE (fun hc=>?_) fun hc=>?_⟩
   ·have hc:(j.length:Int)=4096:=dT hc;have g1:Y2.heap[L+1]?=some (.cells #[.slice none 0 0] 101 (0,0)):=(h3.block (L+1) (hlt bv) (by simp;omega)).trans bv;have g2:Y2.heap[L+2]?=some (.cells #[i64 0] 33 (0,0)):=(h3.block (L+2) (hlt bn) (by simp;omega)).trans bn;refine zm zs3 g1 (o:=0) (v := .slice none 0 0) rfl rfl (by show 0<1;decide) rfl fun Z1 ar ac a9=>?_;have bb:=(ac.block (L+2) (hlt g2) (by simp)).trans g2;exact zm k33 bb (o:=0) (v:=i64 5) rfl rfl (by show 0<1;decide) rfl fun Z2 al af aw=>⟨F,⟨rfl,by omega,rfl,by omega,(af.block (L+1) (hlt ar) (by simp)).trans ar,al,af.os.trans (ac.os.trans h3.os),af.tape.trans (ac.tape.trans h3.tape),af.output.trans (ac.output.trans h3.output),by omega,fun k hk=>(af.block k (by omega) (by simp;omega)).trans ((ac.block k (by omega) (by simp;omega)).trans (h3.block k (by omega) (by simp;omega)))⟩,(KeepsG.grown (F:=F) ac (by rw[aq];exact .inr (.inl rfl))).trans (KeepsG.grown (F:=F) af (by rw[aq];exact .inr (.inr rfl)))⟩
   ·have hc:¬(j.length:Int)=4096:=dF hc;refine⟨_,zc (za h2) (i:=0) rfl,((j.length+1:Nat):Int),(ze (by omega)).trans (by omega),zm k3 h2 (o:=0) (v:=i64 (j.length+1:Nat)) rfl rfl (by show 0<1;decide) rfl fun Z fZ gZ sZ=>⟨_,⟨rfl,by omega,by rw[lap];show j.length+1<=4096;omega,?_,zd h3 gZ⟩,KeepsG.grown (F:=F) gZ (by rw[aq];exact .inl rfl)⟩⟩;rw[lap];exact fZ
  ·rintro D1 F Y hD an ⟨rfl,h1,h4,h2,h3⟩ ah;refine⟨D1,(cvE rfl rfl),h4,h2,ah,by omega,?_⟩;exact zd (zi u) h3
  ·rintro D ex j F Y hD an ag ⟨rfl,h1,rfl,a6,g1,g2,am⟩ ah;refine⟨_,rfl,ah,.slice none 0 0,zc (za ((zj (by omega)).trans g1)) (i:=0) rfl,i64 5,zc (za ((zj (by omega)).trans g2)) (i:=0) rfl,.inr ⟨a6,rfl⟩,?_⟩;have ak:=ab.trans (am.mono (by omega));exact qC ak (by have:=ao.size;omega) _
 clear fN sV;rintro D1 U ⟨hm,fN,ax,cv,gU⟩;have a1:∀{k:Nat} {o:Obj},k≠N->V.heap[k]?=some o->U.heap[k]?=some o:=fun{k o} z h=>(gU.block k (hlt h) (by simpa using z)).trans h;have sU:=gU.size;have cq:=aa.size;have f1:=a1 (by omega) f1;have f2:=a1 (by omega) f2;have oD:OwnS zS 5 (L+3) U d cc D:=oD.kept gU fun g hg e=>by
  have:g<N:=aj _ hg;simp only[KY] at e;omega
 have bi:Bw w U:=ao.trans ⟨gU.os,gU.tape,gU.output,gU.size,fun k hk=>gU.block k (by have:=ao.size;omega) (by simp;omega)⟩;clear f0 a1 gU aa ao;obtain⟨M,hM⟩:=nm (U.heap.size);have ct:=hlt ax;refine⟨OA×Nat,fun s=>⟨[(0,.slice q l.length cap),(1,.slice d D.length cc),(6,AtR (L+1)),(7,AtR (L+2)),(9,AtR (M+1))],[{ target := .collected D1,args := #[] }]⟩,fun s Z=>Z.heap[M+1]?=some (.cells [.slice s.1 0 s.2].toArray 101 (0,0))/\OwnS j7 145 M Z s.1 s.2 []/\(∀a,s.1=some a->a.block=M)/\Z.heap.size=M+2/\Bw U Z,?_,?_⟩
 ·refine⟨_,zc (za fN) (i:=0) rfl,zd5 (E:=j7) Tryz.underlying101 zq7 rfl rfl rfl ad.length (by show 104*_<=_;omega) (by unfold maxLen;omega) fun Z oZ az a4=>zo (X:=Z) (v := .slice (some ⟨U.heap.size,0,none⟩) 0 ad.length) zs3 rfl rfl rfl fun Z2 ay al aw=>?_⟩;rw[<- hM] at oZ a4;rw[a4] at al aw;refine⟨(some ⟨M,0,none⟩,ad.length),⟨.cons rfl (.cons rfl (.cons rfl (.cons rfl (.cons (by rw[<- a4];rfl) .nil)))),rfl⟩,by rw[hM] at al ⊢;exact al,oZ.below ay,fun a f=>by cases f;rfl,aw,az.trans (ay.mono az.size)⟩
 clear fN;rintro⟨p0,c0⟩ V ⟨fV,oV,bp,sV,aa⟩;dsimp only at fV oV bp;have f1:=zb aa f1;have f2:=zb aa f2;have ax:=zb aa ax;have oD:=oD.below aa;have ao:=zst bi aa;have be:w.heap.size<=M:=by rw[hM];exact bi.size
 have cg:∀a,d=some a->a.block<N:=aj;refine cmo zls ?_;rintro e W ⟨rfl,fi,fd,sW,u⟩;have ab:=zst ao u;have cj:Bw V W:=u;have hI:=zlr (q:=q) (p:=d) (hl.below ab) (oD.below u).row fi fd (fun z a f=>by have:=hqb z a f;have:=ab.size;omega) (fun a f=>by have:=aj a f;omega) ht (by omega);rw[<- av] at hI;refine zdW (zgn _) rfl (lb := #[AtR V.heap.size,AtR (V.heap.size+1)]) rfl rfl hI (UW _) (fun k hk=>⟨?_,rfl⟩) (fun j vs W ⟨R,b,_,h,_⟩=>by rw[h];rfl) (by decide)
  (fun k=>k=M+1\/k=M) (JPa M W.heap.size (M+1) W) (fun _ _ _ _=>False) (fun k hk=>?_)
  (JPa.iter (by omega) rfl) (fun ex=>⟨fun _ _ _ _ h=>h.elim,fun _ _ _ _ h=>h.elim⟩) ⟨⟨UW _,.inl rfl,fun k hk=>by omega⟩,⟨[],p0,c0,zb u fV,⟨oV.below u,fun a f => .inr (bp a f)⟩,rfl,fun x hx=>(by cases hx)⟩,Gb _ _⟩ ?_ ?_ ?_
 ·rcases hk with((rfl | rfl) | ⟨z,a,f,rfl⟩ | ⟨a,f,rfl⟩) | h
  ·omega
  ·omega
  ·have:=hqb z a f;have:=ab.size;omega
  ·have:=aj a f;omega
  ·exact h.elim
 ·rcases hk with(rfl | rfl) | ⟨z,a,f,rfl⟩ | ⟨a,f,rfl⟩
  ·omega
  ·omega
  ·have:=hqb z a f;omega
  ·have:=aj a f;omega
 ·rintro yl j x vs F Y b2 ag hJ ⟨R,b,a2,rfl,fR⟩ b9 ⟨lo,a3⟩;have cf:x=R:=by simpa using a2
  subst cf;refine⟨rfl,F,KeepsG.refl _ _,hJ,?_⟩;rintro o Y2 bu ⟨⟨h1,h2,h3⟩,⟨xs,p,c,h4,h5,h6,h7⟩,h8⟩;have b3:b≠yl:=fun e=>by
   rw[e] at fR;rw[fR] at a3
   cases a3
  have bz:jJ Y2 b x:=by rw[bu];exact(zj b3).trans fR
  have bj:x∈ad:=ag.subset (by simp);obtain⟨r1,r2⟩:=hR x bj;have cm:xs.length=j.length:=by
   have:=Gi List.length h6;rw[QJ,QJ] at this;exact this
  have ca:j.length<ad.length:=by
   obtain⟨t,ht⟩:=ag;rw[<- ht];simp only[lap,Qp];omega
  have bk:Bw w Y2:=ab.trans (h8.mono be);have bm:Bw Y2 Y2.drew:=(Gb _ _).drew;have a8:Bw w Y2.drew:=zst bk bm;refine DrawE.ord [4,5] [0,1,2,3,4,5] (by kernel_rfl) ⟨_,zc (za (hdr h4)) (i:=0) rfl,cmo (zwS (hdr bz) r1 r2 (hG.t32.below a8)) ?_⟩;rintro e Y3 ⟨⟨q1,k1,q2,k2,q3,k3,q4,k4,rfl,o1,o2,o3,o4⟩,a0⟩;refine⟨a0,?_⟩;obtain⟨nx,bc⟩:∃nx:zep,nx=(jN x,(q1,k1),(q2,k2),(q3,k3),(q4,k4)):=⟨_,rfl⟩;have bw:zjz (jN x) q1 k1 q2 k2 q3 k3 q4 k4=j7.enc nx:=by rw[bc];rfl
  rw[bw];refine⟨⟨by decide,by decide,rfl⟩,j7.enc nx,zbs (j7.len nx) rfl,?_⟩;have bf:Bw Y3 (Y3.alloc (.cells (j7.enc nx).toArray 145)):=zba _ _;have sa:(Y3.alloc (.cells (j7.enc nx).toArray 145)).heap.size=Y3.heap.size+1:=wz _ _;have s3:Y2.heap.size<=Y3.heap.size:=a0.size;refine⟨bf,?_⟩;have ae:Bw Y2 (Y3.alloc (.cells (j7.enc nx).toArray 145)):=(bm.trans a0).trans (bf.mono s3);refine jG (E:=j7) (T:=145) (B:=M) (l:=xs) (news:=[nx]) (cap:=c) (m:=1) Tryz.underlying101 zq7 rfl rfl rfl (h5.own.below ae) rfl (q9 j7 nx) (by omega) (by omega) (by show(xs.length+1)*104<=_;omega) ?_;intro p2 c2 Y5 o5 g5 cp ce;have br:Y5.heap[M+1]?=some (.cells [.slice p xs.length c].toArray 101 (0,0)):=by
   refine(g5.block (M+1) (hlt (zb ae h4)) fun e=>?_).trans (zb ae h4)
   cases hp:p with
   | none=>rw [hp] at e;simp [Value.ownBlock] at e
   | some a =>
    rw[hp] at e;simp only[Value.ownBlock,KY] at e;obtain⟨_,_,bg,n⟩:=za9 h5.own hp;rw[<- e] at n;rw[n] at h4;simp at h4
  refine zm zs3 br (o:=0) (v := .slice p2 (xs++[nx]).length c2) rfl rfl (by show 0<1;decide) rfl fun Z fZ gZ sZ=>?_;have s5:=g5.size;have wr:∀k,k<Y2.heap.size->k≠M+1->(∀a,p=some a->k≠a.block)->Z.heap[k]?=Y2.heap[k]?:=fun k hk z b4=>by
   refine(gZ.block k (by omega) (by simpa using z)).trans ((g5.block k (by omega) fun e=>?_).trans (ae.block k hk))
   cases hp:p with
   | none=>rw [hp] at e;simp [Value.ownBlock] at e
   | some a =>
    rw[hp] at e;simp only[Value.ownBlock,KY] at e;exact b4 a hp e
  have new:∀k,Y2.heap.size<=k->k<Y3.heap.size->Z.heap[k]?=Y3.heap[k]?:=fun k cn bx=>by
   refine(gZ.block k (by omega) (by simp;omega)).trans ((g5.block k (by omega) fun e=>?_).trans (bf.block k bx))
   cases hp:p with
   | none=>rw [hp] at e;simp [Value.ownBlock] at e
   | some a =>
    rw[hp] at e;simp only[Value.ownBlock,KY] at e;have:=h3 _ (h5.inF a hp);omega
  have bt:∀{α:Type} {E:Enc α} {T c:Nat} {r:OA} {B:Nat} {ll:List α},T≠145->T≠101->OwnS E T B Y2 r c ll->∀a,r=some a->Z.heap[a.block]?=Y2.heap[a.block]?:=fun{α E T c r B ll} t1 t2 ho a f=>by
   obtain⟨_,b0,bg,n⟩:=za9 ho f;refine wr _ b0 (fun e=>?_) (fun a' b6 e=>?_)
   ·rw[e,h4] at n;simp at n;exact t2 n.2.symm
   ·obtain⟨_,_,ci,bd⟩:=za9 h5.own b6;rw[e,bd] at n;simp at n;exact t1 n.2.symm
  have ai:∀{α:Type} {E:Enc α} {T c:Nat} {r:OA} {ll:List α},OwnS E T Y2.drew.heap.size Y3 r c ll->RowIn E T W.heap.size (fun k=>F k\/(Y2.heap.size<=k/\k<Z.heap.size)) Z r c ll:=fun{α E T c r ll} ho=>by
   refine⟨OwnS.lower (ho.same fun a f=>?_) h1,fun a f=>?_⟩
   ·have:=za9 ho f;exact new _ this.1 this.2.1
   ·have h:=za9 ho f;have b8:Y2.heap.size<=a.block:=h.1;exact .inr ⟨b8,by have:=h.2.1;omega⟩
  refine⟨fun k=>F k\/(Y2.heap.size<=k/\k<Z.heap.size),⟨⟨by omega,.inl h2,fun k hk=>?_⟩,⟨xs++[nx],p2,c2,fZ,⟨o5.kept gZ fun g hg e=>?_,fun a f=>?_⟩,?_,fun y hy=>?_⟩,?_⟩,⟨gZ.os.trans (g5.os.trans ae.os),gZ.tape.trans (g5.tape.trans ae.tape),gZ.output.trans (g5.output.trans ae.output),by omega,fun k hk hf=>wr k hk (fun e=>hf (by rw[e];exact h2)) (fun a f e=>hf (by rw[e];exact h5.inF a f)),fun k hk=>hk.imp id fun h=>h.1⟩⟩
  ·rcases hk with hk | hk
   ·have:=h3 k hk;omega
   ·exact hk.2
  ·have:=za9 o5 hg;obtain⟨_,_,bg,n⟩:=this;simp only[KY] at e;have n:Y5.heap[g]?=_:=n;rw[<- e,br] at n;simp at n
  ·rcases ce a f with h | h
   ·exact .inl (h5.inF a h)
   ·have:=(za9 o5 f).2.1;exact .inr ⟨by omega,by omega⟩
  ·rw[QM,h6,QM,bc];rfl
  ·rcases QN.1 hy with hy | hy
   ·have h:=h7 y hy;have st:∀{α:Type} {E:Enc α} {T c:Nat} {r:OA} {ll:List α},T≠145->T≠101->RowIn E T W.heap.size F Y2 r c ll->RowIn E T W.heap.size (fun k=>F k\/(Y2.heap.size<=k/\k<Z.heap.size)) Z r c ll:=fun{α E T c r ll} t1 t2 hh=>⟨hh.own.same fun a f=>bt t1 t2 hh.own a f,fun a f => .inl (hh.inF a f)⟩;exact⟨st (by decide) (by decide) h.1,st (by decide) (by decide) h.2.1,st (by decide) (by decide) h.2.2.1,st (by decide) (by decide) h.2.2.2⟩
   ·simp only[KB] at hy;subst hy;rw[bc];exact⟨ai o1,ai o2,ai o3,ai o4⟩
  ·refine h8.trans ⟨gZ.os.trans (g5.os.trans ae.os),gZ.tape.trans (g5.tape.trans ae.tape),gZ.output.trans (g5.output.trans ae.output),by omega,fun k hk=>wr k (by omega) (by omega) fun a f=>?_⟩;have:=(za9 h5.own f).1;omega
 ·rintro D2 F Y hD an ⟨⟨h1,h2,h3⟩,⟨xs,p,c,h4,h5,h6,h7⟩,h8⟩ ah;have g1:Y.heap[L+1]?=some (.cells #[.slice none 0 0] 101 (0,0)):=(h8.block (L+1) (by omega)).trans (zb u f1);have g2:Y.heap[L+2]?=some (.cells #[i64 0] 33 (0,0)):=(h8.block (L+2) (by omega)).trans (zb u f2);have gD:Y.heap[D1]?=some (.deferred (some [])):=(h8.block D1 (by omega)).trans (zb u ax);refine⟨_,zc (za h4) (i:=0) rfl,zm zs3 g1 (o:=0) (v := .slice p xs.length c) rfl rfl (by show 0<1;decide) rfl fun Z1 ar ac a9=>?_⟩;have bb:=(ac.block (L+2) (hlt g2) (by simp)).trans g2;refine zm k33 bb (o:=0) (v:=i64 0) rfl rfl (by show 0<1;decide) rfl fun Z2 al af aw=>?_;have ck:M<Y.heap.size:=by omega
  have k2:∀k,k<Y.heap.size->k≠L+1->k≠L+2->Z2.heap[k]?=Y.heap[k]?:=fun k hk n1 n2=>(af.block k (by rw[a9];exact hk) (by simpa using n2)).trans (ac.block k hk (by simpa using n1));have a5:=(k2 D2 (hlt ah) (by omega) (by omega)).trans ah;have bo:=(k2 D1 (hlt gD) (by omega) (by omega)).trans gD;have bh:=(af.block (L+1) (hlt ar) (by simp)).trans ar;have cb:D1≠D2:=by omega
  refine⟨_,rfl,a5,_,rfl,(zj cb).trans bo,?_⟩;obtain⟨Zf,au⟩:=nm ((Z2.putObj D2 (.deferred none)).putObj D1 (.deferred none));have kf:∀k,k≠D1->k≠D2->Zf.heap[k]?=Z2.heap[k]?:=fun k n1 n2=>by rw[au];exact(zj n1).trans (zj n2)
  refine⟨.slice p xs.length c,?_,i64 0,?_,.inl ⟨xs,p,c,hm,rfl,h6,?_,fun x hx=>?_⟩,?_⟩
  ·exact zc (za (by rw[<- au];exact(kf (L+1) (by omega) (by omega)).trans bh)) (i:=0) rfl
  ·exact zc (za (by rw[<- au];exact(kf (L+2) (by omega) (by omega)).trans al)) (i:=0) rfl
  ·rw[<- au];refine OwnS.lower (h5.own.same fun a f=>?_) be;have h:=za9 h5.own f;have n1:a.block≠D2:=fun e=>by rw[<- e] at an;exact an (h5.inF a f)
   exact(kf _ (by omega) n1).trans (k2 _ h.2.1 (by omega) (by omega))
  ·have h:=h7 x hx;have st:∀{α:Type} {E:Enc α} {T c:Nat} {r:OA} {ll:List α},RowIn E T W.heap.size F Y r c ll->OwnS E T w.heap.size Zf r c ll:=fun{α E T c r ll} hh=>by
    refine OwnS.lower (hh.own.same fun a f=>?_) ab.size;have h:=za9 hh.own f;have n1:a.block≠D2:=fun e=>by rw[<- e] at an;exact an (hh.inF a f)
    exact(kf _ (by omega) n1).trans (k2 _ h.2.1 (by omega) (by omega))
   rw[<- au];exact⟨st h.1,st h.2.1,st h.2.2.1,st h.2.2.2⟩
  ·have ak:Bw w Y:=ab.trans (h8.mono be);have b1:=(ak.trans (zl ac ak.size (by omega))).trans (zl af (by rw[a9];exact ak.size) (by omega));exact qC (qC b1 (by omega) _) (by omega) _
 ·rintro D ex j F Y hD an ag h;exact h.elim
end
section
variable{l:List InsD}{dom:List UInt8}{q p:OA}{cap cd:Nat}{w:Wd}
theorem zqk(hl:SlR zU w q l)(hp:SlR zS w p dom)(hok:qI l 6=true)(hqb:l≠[]->∀a,q=some a->a.block<w.heap.size)(hpb:∀a,p=some a->a.block<w.heap.size)(hdl:dom.length<=1000) :
  Calls PG 63 #[.slice q l.length cap,.slice p dom.length cd] w fun e w'=>((∃(p':OA) (c':Nat),(qB l dom).length<=4096/\e = .returned (.tuple #[.slice p' (zaF (qB l dom)).length c',.bool true])/\OwnS zS 5 w.heap.size w' p' c' (zaF (qB l dom)))\/(4096<(qB l dom).length/\e = .returned (.tuple #[.slice none 0 0,.bool false])))/\Bw w w':=by
 have ht:=zkO hok;have h12:l.length<=12:=ht.1;have hR:∀R∈qB l dom,R.many<=24:=fun R h=>(zhN ht dom R h).1;refine qA 55 [.slice q l.length cap,.slice p dom.length cd] (.c .p (.c .p (.c .p (.c .p (.s .p (.c .p .p)))))) Tryz.func63 ?_;obtain⟨L,hL⟩:=nm (w.heap.size);refine⟨Unit,fun _=>⟨[(0,.slice q l.length cap),(1,.slice p dom.length cd),(4,AtR L),(5,AtR (L+1))],[]⟩,fun _ X=>X.heap[L]?=some (.cells #[.slice none 0 0] 23 (0,0))/\X.heap[L+1]?=some (.cells #[.bool false] 4 (0,0))/\X.heap.size=L+2/\Bw w X,?_,?_⟩
 ·have s1:=wz w (.cells #[.slice none 0 0] 23);have h2:=zt (w.alloc (.cells #[.slice none 0 0] 23)) (.cells #[.bool false] 4);have s2:=wz (w.alloc (.cells #[.slice none 0 0] 23)) (.cells #[.bool false] 4);rw[s1] at h2 s2;refine⟨(),⟨.cons rfl (.cons rfl (.cons (by rw[hL];rfl) (.cons (by rw[hL,<- s1];rfl) .nil))),rfl⟩,?_,?_,?_,?_⟩
  ·rw[hL];exact qO _ (zt w _)
  ·rw[hL];exact h2
  ·rw[hL];exact s2
  ·exact((zba w _)).alloc (by simp) _
 rintro _ X ⟨f0,f1,sX,hbX⟩;refine⟨Unit,fun _=>⟨[(0,.slice q l.length cap),(1,.slice p dom.length cd),(4,AtR L),(5,AtR (L+1)),(6,AtR (L+2))],[]⟩,fun _ Y=>Y.heap[L+2]?=some (.cells (wrC fun _=>false).toArray 198 (0,0))/\Y.heap.size=L+3/\Bw X Y,?_,?_⟩
 ·refine⟨(),⟨.cons rfl (.cons rfl (.cons rfl (.cons rfl (.cons (by rw[<- sX];rfl) .nil)))),rfl⟩,?_,?_,?_⟩
  ·rw[<- sX,<- zyo];exact zt X _
  ·have:=wz X (.cells (List.replicate 256 (Value.bool false)).toArray 198);rw[sX] at this;exact this
  ·exact(zba X _)
 rintro _ Y ⟨f2,sY,hbY⟩;refine⟨Unit,fun _=>⟨[(0,.slice q l.length cap),(1,.slice p dom.length cd),(4,AtR L),(5,AtR (L+1)),(6,AtR (L+2)),(7,AtR (L+3))],[]⟩,fun _ Z=>Z.heap[L+3]?=some (.cells [i64 (0:Nat)].toArray 3 (0,0))/\Z.heap.size=L+4/\Bw Y Z,?_,?_⟩
 ·refine zo (X:=Y) (v:=i64 0) k3 rfl rfl rfl fun Z hbZ fZ sZ=>?_;rw[sY] at fZ sZ;exact⟨(),⟨.cons rfl (.cons rfl (.cons rfl (.cons rfl (.cons rfl (.cons (by rw[<- sY];rfl) .nil))))),rfl⟩,fZ,sZ,hbZ⟩
 rintro _ V ⟨f3,sV,hbV⟩;have hXV:Bw X V:=zst hbY hbV;have hwV:=zst hbX hXV;have f0:=zb hXV f0;have f1:=zb hXV f1;have f2:=zb hbV f2;clear hbX hbY hbV hXV;obtain⟨xs,hxs⟩:=nm (qB l dom);rw[<- hxs] at hR ⊢;refine⟨Nat,fun D1=>⟨[(4,AtR L),(5,AtR (L+1)),(6,AtR (L+2))],[{ target := .collected D1,args := #[] }]⟩,fun D1 U=>xs.length<=4096/\U.heap[L+2]?=some (.cells (wrC (wrL xs)).toArray 198 (0,0))/\U.heap[D1]?=some (.deferred (some []))/\L+2<D1/\Below (L+2) V U,?_,?_⟩
 ·refine cmo zls ?_;rintro e W ⟨rfl,fi,fd,sW,hbW⟩;have hwW:=zst hwV hbW;have hI:=zlr (q:=q) (p:=p) (hl.below hwW) (hp.below hwW) fi fd (fun hne a ha=>by have:=hqb hne a ha;have:=hwW.size;omega) (fun a ha=>by have:=hpb a ha;have:=hwW.size;omega) ht hdl;rw[<- hxs] at hI;obtain⟨J,hJ⟩:∃J:List RunD->Wd->Prop,J=fun pre Y=>W.heap.size<=Y.heap.size/\pre.length<=4096/\Y.heap[L+2]?=some (.cells (wrC (wrL pre)).toArray 198 (0,0))/\Y.heap[L+3]?=some (.cells [i64 pre.length].toArray 3 (0,0))/\Below (L+2) W Y:=⟨_,rfl⟩;obtain⟨F0,hF0⟩:∃F0:Nat->Prop,F0=fun k=>k=L+2\/k=L+3\/k=L\/k=L+1:=⟨_,rfl⟩;have f0W:=zb hbW f0;have f1W:=zb hbW f1;refine zdW (zgn _) rfl (lb := #[AtR V.heap.size,AtR (V.heap.size+1)]) rfl rfl hI (UW _) (fun k hk=>⟨?_,rfl⟩) (fun pre vs W ⟨R,b,_,h,_⟩=>by rw[h];rfl) (by decide)
   F0 (fun pre F Y=>F=F0/\J pre Y) (fun ex pre F Y=>F=F0/\W.heap.size<=Y.heap.size/\ex = .ret/\4096<xs.length/\Y.heap[L]?=some (.cells #[.slice none 0 0] 23 (0,0))/\Y.heap[L+1]?=some (.cells #[.bool false] 4 (0,0))/\Below L W Y) (fun k hk=>?_)
   (joG (F:=F0) (J:=J) (fun k h=>by rw[hF0] at h;omega) (fun s A h=>by rw[hJ] at h;exact h.1) (fun pre A B h hb=>by
    rw[hJ] at h ⊢;obtain⟨h1,h0,h2,h3,h4⟩:=h;exact⟨UL h1 hb.size,h0,jA hb (by omega) h2,jA hb (by omega) h3,h4.trans (hb.mono (by omega))⟩))
   (fun ex=>joG (F:=F0) (J:=fun(pre:List RunD) Y=>W.heap.size<=Y.heap.size/\ex = .ret/\4096<xs.length/\Y.heap[L]?=some (.cells #[.slice none 0 0] 23 (0,0))/\Y.heap[L+1]?=some (.cells #[.bool false] 4 (0,0))/\Below L W Y) (fun k h=>by rw[hF0] at h;omega) (fun s A h=>h.1) (fun pre A B ⟨h1,h2,h3,h4,h5,h6⟩ hb=>⟨UL h1 hb.size,h2,h3,jA hb (by omega) h4,jA hb (by omega) h5,h6.trans (hb.mono (by omega))⟩)) ⟨rfl,by rw[hJ];exact⟨UW _,UZ _,zb hbW f2,zb hbW f3,Gb _ _⟩⟩ ?_ ?_ ?_
  ·rcases hk with((rfl | rfl) | ⟨hne,a,ha,rfl⟩ | ⟨a,ha,rfl⟩) | h
   ·omega
   ·omega
   ·have:=hqb hne a ha;have:=hwW.size;omega
   ·have:=hpb a ha;have:=hwW.size;omega
   ·exact h.elim
  ·rw[hF0];rcases hk with(rfl | rfl) | ⟨hne,a,ha,rfl⟩ | ⟨a,ha,rfl⟩
   ·omega
   ·omega
   ·have:=hqb hne a ha;omega
   ·have:=hpb a ha;omega
  ·rintro yl pre x vs F Y hyl hpre hJ0 ⟨R,b,hlast,rfl,fR⟩ hfy ⟨lo,hlo⟩;have hxR:x=R:=by simpa using hlast
   subst hxR;refine⟨rfl,F,KeepsG.refl _ _,hJ0,?_⟩;rintro o Y2 hY2 ⟨rfl,hJ2⟩;rw[hJ] at hJ2;obtain⟨h1,h0,h2,h3,h4⟩:=hJ2;have hbl:b≠yl:=fun e=>by
    rw[e] at fR;rw[fR] at hlo
    cases hlo
   have fR2:jJ Y2 b x:=by rw[hY2];exact(zj hbl).trans fR
   have r1:=hR x (hpre.subset (by simp));have hpl:pre.length<xs.length:=by
    obtain⟨t,ht⟩:=hpre;rw[<- ht];simp only[lap,Qp];omega
   refine⟨_,zc (za h3) (i:=0) rfl,?_⟩;refine biE (fun hct=>?_) fun hct=>?_
   ·have hct:(pre.length:Int)=4096:=dT hct;have g0:Y2.heap[L]?=some (.cells #[.slice none 0 0] 23 (0,0)):=(h4.block L (by omega)).trans f0W;have g1:Y2.heap[L+1]?=some (.cells #[.bool false] 4 (0,0)):=(h4.block (L+1) (by omega)).trans f1W;refine zm k23 g0 (o:=0) (v := .slice none 0 0) rfl rfl (by show 0<1;decide) rfl fun Z1 fZ1 gZ1 sZ1=>?_;have g1':=(gZ1.block (L+1) (hlt g1) (by simp)).trans g1;refine zm k4 g1' (o:=0) (v := .bool false) rfl rfl (by show 0<1;decide) rfl fun Z2 fZ2 gZ2 sZ2=>?_;refine⟨F,⟨rfl,by omega,rfl,by omega,(gZ2.block L (hlt fZ1) (by simp)).trans fZ1,fZ2,?_⟩,(KeepsG.grown (F:=F) gZ1 (by rw[hF0];exact .inr (.inr (.inl rfl)))).trans (KeepsG.grown (F:=F) gZ2 (by rw[hF0];exact .inr (.inr (.inr rfl))))⟩;exact((h4.mono (by omega)).trans (zl gZ1 (by omega) (UW _))).trans (zl gZ2 (by omega) (by omega))
   have hct:¬(pre.length:Int)=4096:=dF hct;refine⟨_,zc (za h3) (i:=0) rfl,?_⟩;refine⟨((pre.length+1:Nat):Int),(ze (by omega)).trans (by omega),?_⟩;refine zm k3 h3 (o:=0) (v:=i64 (pre.length+1:Nat)) rfl rfl (by show 0<1;decide) rfl fun Z fZ gZ sZ=>?_;have fRZ:jJ Z b x:=(gZ.block b (hlt fR2) (fun e=>by
    have e:b=L+3:=(by simpa using e);rw[e] at fR2;rw[fR2] at h3;simp at h3)).trans fR2
   have f2Z:=(gZ.block (L+2) (hlt h2) (by simp)).trans h2;have kZ:KeepsG F F Y2 Z:=KeepsG.grown gZ (by rw[hF0];exact .inr (.inl rfl));have bZ:Below (L+2) W Z:=h4.trans (zl gZ (by omega) (by omega));refine DrawE.ord [] [0,1,2,3,4,5,6,7,8,9] (by kernel_rfl) ?_;have hdZ:Bw Z Z.drew:=(Gb _ _).drew;refine⟨_,zc (za (hdr fRZ)) (i:=18) (zci x),?_⟩;refine⟨x.many,rfl,r1,?_⟩;have ecut:qJ (some ⟨b,0+19,none⟩) 24 0 7=some ⟨b,19,none⟩:=by rw[zah,UQ]
   refine⟨Nat,fun i=>⟨[(6,AtR (L+2)),(7,AtR (L+3)),(29,.slice (some ⟨b,19,none⟩) (x.many-0) (24-0)),(30,i64 (x.many:Nat)),(31,i64 (i:Nat))],[]⟩,
    fun i T=>i<=x.many/\T.heap[L+2]?=some (.cells (wrC fun v=>wrL pre v||wrE x i v).toArray 198 (0,0))/\jJ T b x/\T.heap[L+3]?=some (.cells [i64 (pre.length+1:Nat)].toArray 3 (0,0))/\KeepsG F F Y2 T/\Below (L+2) W T,fun i=>x.many-i,0,
    ⟨.cons rfl (.cons rfl (.cons (by rw[<- ecut];rfl) (.cons rfl (.cons rfl .nil)))),rfl⟩,⟨UZ _,?_,hdr fRZ,hdr fZ,kZ.trans (KeepsG.below hdZ fun k h => .inl h),bZ.drew⟩,?_⟩
   ·have e:(fun v=>wrL pre v||wrE x 0 v)=wrL pre:=by
     funext v;show(wrL pre v||false)=_;rw[Uu]
    rw[e];exact f2Z
   rintro i T ⟨hi,t2,tR,t3,kT,bT⟩;have hTs:=kT.size;refine biE (fun hc=>?_) fun hc=>?_
   ·have hc:(i:Int)<(x.many:Int):=dT hc;have him:i<x.many:=(by omega);refine⟨i,rfl,him,?_⟩;have hev:zI T ⟨b,19+i*7,none⟩ (evE.enc (x.ev i)):=by
     have:=zP (n:=i*7) (m:=7) (zo8 tR);rw[zto x.ev (show i<24 by omega)] at this;exact this
    refine⟨evE.enc (x.ev i),rfl,hev,hlt tR,?_⟩;refine zo (X:=T) (v := .agg (evE.enc (x.ev i)).toArray) k80 rfl rfl rfl fun T2 hb2 fT2 sT2=>?_;have k2:KeepsG F F Y2 T2:=kT.trans (KeepsG.below hb2 fun k h => .inl h);have b2:Below (L+2) W T2:=bT.trans (hb2.mono (by omega));have n1:=zrQ x i;refine⟨_,zc (za fT2) (i:=1) rfl,?_⟩;have u2:=zb hb2 t2;have uR:=zb hb2 tR;have u3:=zb hb2 t3;refine biE (fun hk=>?_) fun hk=>?_
    ·have hk:(x.ev i).k=2:=qS.1 (dT hk);refine⟨_,zc (za fT2) (i:=3) rfl,?_⟩;refine⟨((x.ev i).v).toNat,rfl,((x.ev i).v).toNat_lt,?_⟩;refine zm k4 u2 (o:=0+((x.ev i).v).toNat*1) (v := .bool true) rfl rfl (by rw[zoX];have:=((x.ev i).v).toNat_lt;omega) rfl fun T3 fT3 gT3 sT3=>?_;rw[UQ,UX,zuo] at fT3;have k3:KeepsG F F Y2 T3:=k2.trans (KeepsG.grown gT3 (by rw[hF0];exact .inl rfl));have hT2s:=k2.size;refine nxI (by omega) ?_;refine⟨i+1,(cvE rfl rfl),⟨him,?_,(gT3.block b (hlt uR) (fun e=>by
      have e:b=L+2:=(by simpa using e);rw[e] at uR;rw[uR] at u2;simp at u2)).trans uR,(gT3.block (L+3) (hlt u3) (by simp)).trans u3,k3,b2.trans (zl gT3 (by omega) (UW _))⟩,zdc (by omega)⟩
     have e:(fun v=>wrL pre v||wrE x (i+1) v)=fun v=>(wrL pre v||wrE x i v)||decide ((x.ev i).v=v):=by
      funext v;rw[n1,Up hk,Uv,Bool.or_assoc]
     rw[e];exact fT3
    ·have hk:¬(x.ev i).k=2:=fun e=>(dF hk) (by rw[e];rfl);refine nxI (by omega) ?_;refine⟨i+1,(cvE rfl rfl),⟨him,?_,uR,u3,k2,b2⟩,zdc (by omega)⟩;have e:(fun v=>wrL pre v||wrE x (i+1) v)=fun v=>(wrL pre v||wrE x i v):=by
      funext v;rw[n1,Ue hk,Ug,Uu]
     rw[e];exact u2
   ·have hc:¬(i:Int)<(x.many:Int):=dF hc;obtain rfl:i=x.many:=(by omega);refine⟨F,⟨rfl,?_⟩,kT⟩;rw[hJ];refine⟨by omega,by rw[lap];show pre.length+1<=4096;omega,?_,by rw[lap];exact t3,bT⟩;have e:wrL (pre++[x])=fun v=>wrL pre v||wrE x x.many v:=by
     funext v;exact zrO pre x v
    rw[e];exact t2
  ·rintro D1 F Y hD hfD ⟨rfl,hj⟩ hdef;rw[hJ] at hj;obtain⟨h1,h0,h2,h3,h4⟩:=hj;exact⟨D1,(cvE rfl rfl),h0,h2,hdef,by omega,(hbW.mono (by omega)).trans h4⟩
  ·rintro D ex pre F Y hD hfD hpre ⟨rfl,h1,rfl,hlong,g0,g1,hbY⟩ hdef;refine⟨_,rfl,hdef,?_⟩;refine⟨.slice none 0 0,zc (za ((zj (by omega)).trans g0)) (i:=0) rfl,.bool false,zc (za ((zj (by omega)).trans g1)) (i:=0) rfl,.inr ⟨hlong,rfl⟩,?_⟩;have hwY:=hwW.trans (hbY.mono (by omega));exact qC hwY (by have:=hwV.size;omega) _
 clear f2 f3;rintro D1 U ⟨hm,f2,fD1,hLD,bU⟩;have f0:U.heap[L]?=some (.cells #[.slice none 0 0] 23 (0,0)):=(bU.block L (by omega)).trans f0;have f1:U.heap[L+1]?=some (.cells #[.bool false] 4 (0,0)):=(bU.block (L+1) (by omega)).trans f1;have hwU:Bw w U:=hwV.trans (bU.mono (by omega));have sU:=hlt f2;have sD:=hlt fD1;clear bU hwV;refine⟨List UInt8×OA×Nat,fun s=>⟨[(4,AtR L),(5,AtR (L+1)),(11,.slice s.2.1 s.1.length s.2.2)],[{ target := .collected D1,args := #[] }]⟩,fun s Z=>s.1=zaF xs/\OwnS zS 5 U.heap.size Z s.2.1 s.2.2 s.1/\Bw U Z,?_,?_⟩
 ·refine⟨wrC (wrL xs),zoX _,za f2,hlt f2,?_⟩;refine⟨Nat×OA×Nat,fun s=>⟨[(4,AtR L),(5,AtR (L+1)),(11,.slice s.2.1 ((qh.take s.1).filter (wrL xs)).length s.2.2),(42,.agg (wrC (wrL xs)).toArray),(43,i64 (s.1:Nat))],[{ target := .collected D1,args := #[] }]⟩,
   fun s Z=>s.1<=256/\OwnS zS 5 U.heap.size Z s.2.1 s.2.2 ((qh.take s.1).filter (wrL xs))/\Bw U Z,fun s=>256-s.1,(0,none,0),
   (cvE rfl rfl),⟨UZ _,OwnS.nil,Gb _ _⟩,?_⟩
  rintro⟨k,r,c⟩ Z ⟨hk,ho,hbZ⟩;dsimp only at hk ho ⊢;have hZs:=hbZ.size;refine biE (fun hc=>?_) fun hc=>?_
  ·have hc:(k:Int)<256:=dT hc;have hk2:k<256:=by omega
   have tk:qh.take (k+1)=qh.take k++[UInt8.ofNat k]:=by
    obtain⟨hlb,hbk⟩:=ztK hk2;rw[tsg hlb,hbk]
   have fl:(qh.take (k+1)).filter (wrL xs)=(qh.take k).filter (wrL xs)++(if wrL xs (UInt8.ofNat k)=true then[UInt8.ofNat k] else[]):=by
    rw[tk,Kw,zos]
   have hfl:((qh.take k).filter (wrL xs)).length<=256:=by
    have h1:=JK (wrL xs) (qh.take k);rw[Qr] at h1;omega
   refine⟨k,rfl,hk2,?_⟩;refine zax (by rw[UX];exact znG _ hk2) ?_;refine biE (fun hv=>?_) fun hv=>?_
   ·rw[Gn hv] at fl;refine⟨_,w8N k,?_⟩;refine⟨⟨by decide,by decide,rfl⟩,zS.enc (UInt8.ofNat k),rfl,?_⟩;have hba:Bw Z (Z.alloc (.cells (zS.enc (UInt8.ofNat k)).toArray 5)):=zba _ _;refine jG (E:=zS) (T:=5) (B:=U.heap.size) (l:=(qh.take k).filter (wrL xs)) (news:=[UInt8.ofNat k]) (cap:=c) (m:=1) Tryz.underlying23 k5 rfl rfl rfl (ho.below hba) rfl (q9 zS (UInt8.ofNat k)) (by have:=hba.size;omega) (by omega) (by show(((qh.take k).filter (wrL xs)).length+1)*1<=_;omega) ?_;intro p2 c2 T oT gT hbT hat;refine nxI (by omega) ?_;refine⟨(k+1,p2,c2),⟨.cons rfl (.cons rfl (.cons (by rw[fl];rfl) (.cons rfl (.cons rfl .nil)))),rfl⟩,⟨hk2,by show OwnS zS _ _ _ _ _ ((qh.take (k+1)).filter (wrL xs));rw[fl];exact oT,(hbZ.trans (hba.mono hZs)).trans hbT⟩,zdc (by omega)⟩
   ·have hv:wrL xs (UInt8.ofNat k)=false:=hv;rw[hv,Gm Kv,QG] at fl;refine nxI (by omega) ?_;exact⟨(k+1,r,c),⟨.cons rfl (.cons rfl (.cons (by rw[fl];rfl) (.cons rfl (.cons rfl .nil)))),rfl⟩,⟨hk2,by show OwnS zS _ _ _ _ _ ((qh.take (k+1)).filter (wrL xs));rw[fl];exact ho,hbZ⟩,zdc (by omega)⟩
  ·have hc:¬(k:Int)<256:=dF hc;obtain rfl:k=256:=by omega
   have e:(qh.take 256).filter (wrL xs)=zaF xs:=by
    rw[znE,JE (by unfold qh;rw[QJ,KU];exact UW _)]
   rw[e] at ho;exact⟨(zaF xs,r,c),⟨.cons rfl (.cons rfl (.cons (by rw[e];rfl) .nil)),rfl⟩,rfl,ho,hbZ⟩
 rintro⟨ys,r,c⟩ Z ⟨rfl,ho,hbZ⟩;dsimp only at ho ⊢;have hZs:=hbZ.size;have g0:=zb hbZ f0;have g1:=zb hbZ f1;have gD:=zb hbZ fD1;refine zm k23 g0 (o:=0) (v := .slice r (zaF xs).length c) rfl rfl (by show 0<1;decide) rfl fun Z1 fZ1 gZ1 sZ1=>?_;have g1':=(gZ1.block (L+1) (hlt g1) (by simp)).trans g1;refine zm k4 g1' (o:=0) (v := .bool true) rfl rfl (by show 0<1;decide) rfl fun Z2 fZ2 gZ2 sZ2=>?_;have k2:∀k,k<Z.heap.size->k≠L->k≠L+1->Z2.heap[k]?=Z.heap[k]?:=fun k hk n1 n2=>(gZ2.block k (by rw[sZ1];exact hk) (by simpa using n2)).trans (gZ1.block k hk (by simpa using n1));have fZ1':=(gZ2.block L (hlt fZ1) (by simp)).trans fZ1;refine⟨_,rfl,(k2 D1 (hlt gD) (by omega) (by omega)).trans gD,?_⟩;refine⟨.slice r (zaF xs).length c,?_,.bool true,?_,.inl ⟨r,c,hm,rfl,?_⟩,?_⟩
 ·exact zc (za ((zj (by omega)).trans fZ1')) (i:=0) rfl
 ·exact zc (za ((zj (by omega)).trans fZ2)) (i:=0) rfl
 ·refine OwnS.lower (ho.same fun a ha=>?_) hwU.size;have h:=za9 ho ha;exact(zj (by omega)).trans (k2 _ h.2.1 (by omega) (by omega))
 ·have hwZ:=zst hwU hbZ;exact qC ((hwZ.trans (zl gZ1 hwZ.size (by omega))).trans (zl gZ2 (by rw[sZ1];exact hwZ.size) (by omega))) (by omega) _
end
structure OkG (p:Prg):Prop where
 l1:1<=p.locs.length
 l6:p.locs.length<=6
 il:p.locs.length=p.init.length
 t1:1<=p.threads.length
 t4:p.threads.length<=4
 th:∀l∈p.threads,qI l 6=true
 tl:∀l∈p.threads,qI l p.locs.length=true
theorem OkG.i1{p:Prg}(h:OkG p):1<=p.init.length:=by have:=h.l1;have:=h.il;omega
theorem OkG.i6{p:Prg}(h:OkG p):p.init.length<=6:=by have:=h.l6;have:=h.il;omega
theorem zq9{x:InsD}{k k' n:Nat}(hk:k<=k')(h:zjD x k n=true):zjD x k' n=true:=by
 unfold zjD jg at h ⊢;simp only[Ux,List.all_nil,id_eq,Bool.and_true,bAT,dE,QD] at h ⊢;obtain⟨e,c,d,a,b⟩:=h;exact⟨e,c,d,a.imp id (fun h=>nL h hk),b⟩
theorem zkN{l:List InsD}{k k':Nat}(hk:k<=k')(h:qI l k=true):qI l k'=true:=by
 unfold qI at h ⊢;rw[bAT,dE,Qg] at h ⊢;refine⟨h.1,fun i a=>?_⟩;have:=h.2 i a
 split at this
 ·exact zq9 hk this
 ·rfl
theorem zhG{p:Prg}(h:zbp p=true):OkG p:=by
 unfold zbp at h;simp only[bAT] at h;obtain⟨_,a,⟨b,c,g⟩,f,_,i⟩:=h;unfold zd6 at a;simp only[bAT,dE] at a b c;have d:=Qg.1 f;exact⟨a.1,a.2.1,a.2.2.1.symm,b,c,fun l e=>zkN a.2.1 (d l e),d⟩
def zeQ (threads:List (List InsD)):Nat->List UInt8->Option (List UInt8)
 | 0,_=>none
 | n+1,vals=>if 16<vals.length then none else if (threads.any fun l=>decide (4096<(qB l vals).length))=true then none else if (zaB threads vals).length=vals.length then some vals else zeQ threads n (zaB threads vals)
def zes (p:Prg):Option (List UInt8):=zeQ p.threads 18 (ju p.init)
theorem zbI(l:List UInt8):ju (ju l)=ju l:=zlt (zei l)
theorem zkl{l:List UInt8}(h:1<=l.length):1<=(ju l).length:=by
 cases l with
 | nil=>simp at h
 | cons x r=>exact List.length_pos_of_mem (zbH.2 (KA ..))
theorem zlO(rs:List RunD):(zaF rs).length<=256:=by
 refine UL (JK ..) ?_;unfold qh;rw[QJ,KU];exact UW _
theorem zpI{α β:Type}{g:α->List β}(hg:∀a,(g a).length<=256):∀l:List α,(l.flatMap g).length<=256*l.length
 | []=>UW _
 | a::l=>by
  rw[KR,lap,Qp];have:=hg a;have:=zpI hg l;omega
theorem ztu{a b:List UInt8}(h:∀x,x∈a->x∈b):(ju a).length<=(ju b).length:=by
 unfold ju;rw[<- List.countP_eq_length_filter,<- List.countP_eq_length_filter];refine List.countP_mono_left fun x _ d=>?_;obtain⟨y,c,e⟩:=Qh.1 d;exact Qh.2 ⟨y,h y c,e⟩
theorem zke(ths:List (List InsD)){vals:List UInt8}(h:ju vals=vals):vals.length<=(zaB ths vals).length:=by
 unfold zaB
 conv=>lhs;rw[<- h]
 exact ztu fun x a=>JU _ a
section
variable{B:Nat}{p:Prg}{pc:List Value}{w:Wd}
theorem zrI(hB:B<=w.heap.size)(hP:PrgX B w pc p)(hG:GlobE w)(hok:zbp p=true) :
  Calls PG 25 #[.agg pc.toArray,i64 16] w fun e w'=>((∃(V:List UInt8) (q:OA) (c:Nat),zes p=some V/\e = .returned (.tuple #[.slice q V.length c,i64 0])/\OwnS zS 5 w.heap.size w' q c V)\/(zes p=none/\e = .returned (.tuple #[.slice none 0 0,i64 5])))/\Bw w w':=by
 have ab:=zhG hok;have aj:=ab.i1;have bb:=ab.i6;refine qA 60 [.agg pc.toArray,i64 16] (.c .p (.s .p (.c .p .p))) Tryz.func25 ?_;obtain⟨L,hL⟩:=nm (w.heap.size);have a4:=hP.v.size;have a7:=hP.v.len.threads;refine⟨Unit,fun _=>⟨[(1,i64 16),(2,AtR L)],[]⟩,fun _ X=>X.heap[L]?=some (.cells pc.toArray 29 (0,0))/\Bw w X,⟨(),⟨.cons rfl (.cons (by rw[hL];rfl) .nil),rfl⟩,by rw[hL];exact zt w _,(zba w _)⟩,?_⟩;rintro _ X ⟨x,f⟩;refine brF (brF ⟨pc,a4,za x,hlt x,cmo (zga (UL hB f.size) (hP.v.below (f.mono hB)) (hG.c.below f)) ?_⟩);rintro e Y ⟨m,rfl,hm,d⟩;have aw:m=0:=hm.2 hok;subst aw;refine brF ?_;have o:=zst f d;have x:=zb d x;obtain⟨_,⟨p3,c3,h3,xs,an,jO,ay⟩,⟨p2,c2,h2,ag⟩⟩:=hP;refine⟨OA×Nat,fun s=>⟨[(1,i64 16),(2,AtR L),(6,.slice s.1 (ju p.init).length s.2)],[]⟩,fun s Z=>OwnS zS 5 w.heap.size Z s.1 s.2 (ju p.init)/\Z.heap[L]?=some (.cells pc.toArray 29 (0,0))/\Bw w Z,?_,?_⟩
 ·refine⟨_,zc (za x) (i:=2) (by simpa using h2),cmo (zeh ((ag.below (o.mono hB)).slr (UL hB o.size)) aj (by omega)) ?_⟩;rintro e Z ⟨⟨q,c,rfl,ho⟩,t⟩;exact⟨(q,c),(cvE rfl rfl),OwnS.lower ho o.size,zb t x,(zst o t)⟩
 rintro⟨q,c⟩ X ⟨ho,x,f⟩;obtain⟨R,hR⟩:=nm (zes p);rw[<- hR];refine⟨List UInt8×OA×Nat,fun s=>⟨[(1,i64 16),(2,AtR L),(6,.slice s.2.1 s.1.length s.2.2)],[]⟩,
  fun s Z=>((1<=s.1.length/\ju s.1=s.1)/\∃n,18<=n+s.1.length/\zeQ p.threads n s.1=R)/\OwnS zS 5 w.heap.size Z s.2.1 s.2.2 s.1/\Z.heap[L]?=some (.cells pc.toArray 29 (0,0))/\Bw w Z,fun s=>300-s.1.length,(ju p.init,q,c),
  (cvE rfl rfl),⟨⟨⟨zkl aj,zbI _⟩,18,Qv _ _,hR.symm⟩,ho,x,f⟩,?_⟩
 rintro⟨b,q,c⟩ X ⟨⟨⟨aq,ah⟩,n,hn,hQ⟩,ho,x,f⟩;dsimp only at aq ah hn hQ ho ⊢;have a5:b.length<=256:=by rw[<- ah];exact zeI _
 refine biE (fun z=>?_) fun z=>?_
 ·have z:(16:Int)<(b.length:Int):=dT z;have e:R=none:=by
   rw[<- hQ]
   cases n with
   | zero=>rfl
   | succ n=>exact Gn (by omega)
  exact⟨.inr ⟨e,rfl⟩,f⟩
 have z:¬(16:Int)<(b.length:Int):=dF z;obtain⟨k,rfl⟩:∃k,n=k+1:=⟨n-1,by omega⟩;have hQ:(if 16<b.length then none else if(p.threads.any fun l=>decide (4096<(qB l b).length))=true then none else if(zaB p.threads b).length=b.length then some b else zeQ p.threads k (zaB p.threads b))=R:=hQ;rw[Gm (by omega)] at hQ;have av:q=none->c=0:=fun e=>by
  rcases ho.inv with⟨_,h,_⟩ | ⟨g,_,h,_⟩
  ·exact h
  ·rw[e] at h;cases h
 have au:∀a,q=some a->a.block<X.heap.size:=fun a ha=>(za9 ho ha).2.1;refine cmo (znA ho.row (by omega) av) ?_;rintro e Y ⟨⟨q1,k1,rfl,o1⟩,d⟩;have o:=zst f d;have al:=zb d x;have a9:xs.length=p.threads.length:=by rw[<- an,QJ]
 refine⟨_,zc (za al) (i:=3) (by simpa using h3),?_⟩;obtain⟨g,hg⟩:∃g:List InsD->List UInt8,g=fun l=>zaF (qB l b):=⟨_,rfl⟩;have a1:zaB p.threads b=ju (b++p.threads.flatMap g):=by unfold zaB;rw[hg]
 have az:∀l,(g l).length<=256:=fun l=>by rw[hg];exact zlO _
 have a6:=ab.t4;refine⟨Nat×OA×Nat,fun s=>⟨[(1,i64 16),(2,AtR L),(6,.slice q b.length c),(7,.slice s.2.1 (b++(p.threads.take s.1).flatMap g).length s.2.2),(33,.slice p3 p.threads.length c3),(34,i64 p.threads.length),(35,i64 (s.1:Nat))],[]⟩,
  fun s Z=>(s.1<=p.threads.length/\∀l∈p.threads.take s.1,(qB l b).length<=4096)/\OwnS zS 5 X.heap.size Z s.2.1 s.2.2 (b++(p.threads.take s.1).flatMap g)/\Bw X Z,fun s=>p.threads.length-s.1,(0,q1,k1),
  ⟨.cons rfl (.cons rfl (.cons rfl (.cons (by rw[Um,Qm,QG];rfl) (.cons rfl (.cons rfl (.cons rfl .nil)))))),rfl⟩,⟨⟨UZ _,fun l y=>by cases y⟩,by show OwnS zS _ _ _ _ _ (b++(p.threads.take 0).flatMap g);rw[Um,Qm,QG];exact o1,d⟩,?_⟩
 rintro⟨m,q1,k1⟩ Y ⟨⟨hm,ac⟩,o1,d⟩;dsimp only at hm ac o1 ⊢;have o:=zst f d;have al:=zb d x;have ad:=d.size;have r:∀j,(b++(p.threads.take j).flatMap g).length<=1280:=fun j=>by
  have h1:=zpI az (p.threads.take j);rw[Qr] at h1;rw[lap];omega
 refine biE (fun hc=>?_) fun hc=>?_
 ·have hc:(m:Int)<(p.threads.length:Int):=dT hc;have u:m<p.threads.length:=by omega
  have ae:m<xs.length:=by omega
  obtain⟨b3,o3,ao,ap,am⟩:=zhD (jO.below (o.mono hB)) ae;have a8:b3<Y.heap.size:=nL ap (UL hB o.size);have e3:some (Value.slice p3 p.threads.length c3)=some (Value.slice (some ⟨b3,o3,none⟩) p.threads.length c3):=by rw[ao]
  subst ao;refine⟨m,rfl,u,znK xs[m],by have:=zc (am m ae) (i:=0) (v:=znK xs[m]) rfl;exact this,?_⟩;obtain⟨a3,a0⟩:=ay _ (gM ae);have ai:xs[m].1=p.threads[m]:=by
   have:=Gi (fun l=>l[m]?) an;simp only[KT,gE ae,gE u,Ub,KY] at this;exact this
  have af:=gM u;have ax:xs[m].1.length=p.threads[m].length:=by rw[ai]
  have hw:=zqk (w:=Y) (l:=p.threads[m]) (dom:=b) (q:=xs[m].2.1) (p:=q) (cap:=xs[m].2.2) (cd:=c) (by rw[<- ai];exact(a3.below (o.mono hB)).slr (UL hB o.size)) (ho.row.below d) (ab.th _ af) (fun ar a ha=>nL (a0 (by rw[ai];exact ar) a ha) (UL hB o.size)) (fun a ha=>nL (au a ha) ad) (by omega);rw[<- ax] at hw;have eg:zaF (qB p.threads[m] b)=g p.threads[m]:=by rw[hg]
  rw[eg] at hw;refine cmo hw ?_;rintro e Z ⟨(⟨q2,k2,hs,rfl,o2⟩ | ⟨hs,rfl⟩),t⟩
  case inr =>
   refine brT ?_;have e:R=none:=by
    rw[<- hQ];exact Gn (Qh.2 ⟨_,af,Up hs⟩)
   exact⟨.inr ⟨e,rfl⟩,f.trans ((d.trans (t.mono ad)).mono f.size)⟩
  refine brF ?_;have tk:(p.threads.take (m+1)).flatMap g=(p.threads.take m).flatMap g++g p.threads[m]:=by
   rw[tsg u,Kh,KR,Qm,QG]
  have l1:=r m;have l2:=r (m+1);rw[tk,<- KN,lap] at l2;have aa:=d.trans (t.mono ad);have bd:=t.size;refine zf5 (E:=zS) (T:=5) (B:=X.heap.size) (l:=b++(p.threads.take m).flatMap g) (news:=g p.threads[m]) (cap:=k1) (m:=(g p.threads[m]).length) Tryz.underlying23 k5 rfl rfl rfl (o1.below t) rfl o2.row (fun e=>by
   rcases o2.inv with⟨_,h,_⟩ | ⟨g',_,h,_⟩
   ·exact h
   ·rw[e] at h;cases h) (by omega) (by omega) (by show((b++(p.threads.take m).flatMap g).length+(g p.threads[m]).length)*1<=_;omega) ?_
  intro q4 k4 U oU gU a2;rw[KN,<- tk] at oU ⊢;refine nxI (by omega) ⟨(m+1,q4,k4),(cvE rfl rfl),⟨⟨u,fun l y=>?_⟩,oU,aa.trans a2⟩,zdc (by omega)⟩;have y:l∈p.threads.take (m+1):=y;rw[tsg u] at y;rcases QN.1 y with y | y
  ·exact ac l y
  ·rw[KB.1 y];exact hs
 ·have hc:¬(m:Int)<(p.threads.length:Int):=dF hc;obtain rfl:m=p.threads.length:=by omega
  rw[Qt] at o1 ac ⊢;have l3:=r p.threads.length;rw[Qt] at l3;rw[Gm (fun h=>by
   obtain⟨l,y,e⟩:=Qh.1 h;have:=ac l y;have:=dT e;omega)] at hQ
  refine cmo (zeh o1.row (by rw[lap];omega) (by omega)) ?_;rintro e Z ⟨⟨q2,k2,rfl,o2⟩,t⟩;rw[<- a1] at o2 ⊢;have aa:=d.trans (t.mono ad);have ak:=zst f aa;refine biE (fun he=>?_) fun he=>?_
  ·have he:(zaB p.threads b).length=b.length:=by
    have:=dT he;omega
   rw[Gn he] at hQ;exact⟨.inl ⟨b,q,c,hQ.symm,rfl,ho.below aa⟩,ak⟩
  ·have he:¬(zaB p.threads b).length=b.length:=fun e=>(dF he) (by rw[e]);rw[Gm he] at hQ;have bc:=zke p.threads ah;have ba:(zaB p.threads b).length<=256:=zeI _;exact⟨(zaB p.threads b,q2,k2),(cvE rfl rfl),⟨⟨⟨by show 1<=(zaB p.threads b).length;omega,zbI _⟩,k,by show 18<=k+(zaB p.threads b).length;omega,hQ⟩,OwnS.lower o2 o.size,zb aa x,ak⟩,by show 300-(zaB p.threads b).length<300-b.length;omega⟩
end
abbrev zJ (V:List UInt8) (l:List InsD):List PathD:=(qB l V).map jN
abbrev qu (p:Prg) (V:List UInt8):List MixD:=zsQ p.init (p.threads.map (zJ V))
def zdr (p:Prg) (V:List UInt8):Prop :=
 (∀l∈p.threads,(qB l V).length<=4096)/\(∀k,k<=p.threads.length->zb2 ((p.threads.take k).map fun l=>(zJ V l).length)<=4096) /\
  ∀ds∈qt ((p.threads.map (zJ V)).map List.length),(ziI p.init (js (p.threads.map (zJ V)) ds)).isSome=true
section
variable{w:Wd}{bP cv B:Nat}{pc:List Value}{qv:OA}{V:List UInt8}{p:Prg}
theorem zsR(fP:w.heap[bP]?=some (.cells pc.toArray 29 (0,0)))(hB:B<=w.heap.size)(hP:PrgX B w pc p)(hO:OkG p)(hG:GlobE w)(hV:SlR zS w qv V)(hv1:1<=V.length)(hVd:ju V=V)(hpb:∀l∈p.threads,∀P∈zJ V l,PathB p.init.length P) :
  Calls PG 26 #[At0 bP,.slice qv V.length cv] w fun e w'=>((zdr p V/\∃(ms:List MixX) (q:OA) (c:Nat),e = .returned (.tuple #[.slice q ms.length c,.bool true])/\ms.map (·.m)=qu p V/\OwnS zjA 92 w.heap.size w' q c ms/\∀x∈ms,NInM w.heap.size (fun k=>w.heap.size<=k) w' x)\/(¬zdr p V/\e = .returned (.tuple #[.slice none 0 0,.bool false])))/\Bw w w':=by
 have hil:=hO.il;have hi6:=hO.i6;have ht4:=hO.t4;have hv256:V.length<=256:=by rw[<- hVd];exact zeI V
 refine qA 89 [At0 bP,.slice qv V.length cv] (.c .p (.c .p (.s .p (.s .p (.c .p (.c .p (.s .p .p))))))) Tryz.func26 ?_;obtain⟨L,hL⟩:=nm (w.heap.size);have hbP:=hlt fP;refine⟨Unit,fun _=>⟨[(1,.slice qv V.length cv),(2,At0 L),(4,At0 (L+1)),(5,At0 (L+2))],[]⟩,fun _ X=>X.heap[L]?=some (.cells #[At0 bP] 88 (0,0))/\X.heap[L+1]?=some (.cells #[.slice none 0 0] 85 (0,0))/\X.heap[L+2]?=some (.cells #[.bool false] 4 (0,0))/\X.heap.size=L+3/\Bw w X,?_,?_⟩
 ·have s1:=wz w (.cells #[At0 bP] 88);have h2:=zt (w.alloc (.cells #[At0 bP] 88)) (.cells #[.slice none 0 0] 85);have s2:=wz (w.alloc (.cells #[At0 bP] 88)) (.cells #[.slice none 0 0] 85);have h3:=zt ((w.alloc (.cells #[At0 bP] 88)).alloc (.cells #[.slice none 0 0] 85)) (.cells #[.bool false] 4);have s3:=wz ((w.alloc (.cells #[At0 bP] 88)).alloc (.cells #[.slice none 0 0] 85)) (.cells #[.bool false] 4);rw[s1] at h2 s2;rw[s2] at h3 s3;refine⟨(),⟨.cons rfl (.cons (by rw[hL];rfl) (.cons (by rw[hL,<- s1];rfl) (.cons (by rw[hL,<- s2];rfl) .nil))),rfl⟩,?_,?_,?_,?_,?_⟩
  ·rw[hL];exact qO _ (qO _ (zt w _))
  ·rw[hL];exact qO _ h2
  ·rw[hL];exact h3
  ·rw[hL];exact s3
  ·exact(((zba w _)).alloc (by simp) _).alloc (by simp;omega) _
 rintro _ X ⟨f0,f1,f2,sX,hbX⟩;refine⟨Unit,fun _=>⟨[(1,.slice qv V.length cv),(2,At0 L),(4,At0 (L+1)),(5,At0 (L+2)),(6,At0 (L+3))],[]⟩,fun _ Y=>MxS w.heap.size Y L bP [] none 0 [] none 0/\Bw w Y,?_,?_⟩
 ·refine⟨(),⟨.cons rfl (.cons rfl (.cons rfl (.cons rfl (.cons (by rw[<- sX];rfl) .nil)))),rfl⟩,⟨qO _ f0,qO _ f1,qO _ f2,by rw[<- sX];exact zt X _,OwnS.nil,OwnS.nil,fun z hz=>(by cases hz),fun z hz=>(by cases hz)⟩,hbX.alloc hbX.size _⟩
 clear f0 f1 f2 sX hbX;rintro _ X ⟨hS,hbX⟩;have hP0:=hP;obtain⟨_,⟨p3,c3,h3,xs,hxs,jO,hxr⟩,⟨p2,c2,h2,hinit⟩⟩:=hP;have hxl:xs.length=p.threads.length:=by rw[<- hxs,QJ]
 refine⟨(List TpR×OA×Nat)×OA×Nat,fun s=>⟨[(2,At0 L),(4,At0 (L+1)),(5,At0 (L+2)),(6,At0 (L+3)),(7,.slice s.2.1 (p.threads.map fun l=>(zJ V l).length).length s.2.2)],[]⟩,fun s Z=>((∀l∈p.threads,(qB l V).length<=4096)/\∀k,k<=p.threads.length->zb2 ((p.threads.take k).map fun l=>(zJ V l).length)<=4096)/\MxS w.heap.size Z L bP (p.threads.map fun l=>(zJ V l).length) s.2.1 s.2.2 s.1.1 s.1.2.1 s.1.2.2/\s.1.1.map (fun z=>z.1.map (·.1))=p.threads.map (zJ V)/\Bw w Z,?_,?_⟩
 ·refine⟨_,zc (za hS.f0) (i:=0) rfl,?_⟩;refine⟨_,zc (za (zb hbX fP)) (i:=3) (by simpa using h3),?_⟩;refine⟨Nat×(List TpR×OA×Nat)×OA×Nat,fun s=>⟨[(1,.slice qv V.length cv),(2,At0 L),(4,At0 (L+1)),(5,At0 (L+2)),(6,At0 (L+3)),(7,.slice s.2.2.1 ((p.threads.take s.1).map fun l=>(zJ V l).length).length s.2.2.2),(8,i64 (zb2 ((p.threads.take s.1).map fun l=>(zJ V l).length):Nat)),(23,.slice p3 p.threads.length c3),(24,i64 p.threads.length),(25,i64 (s.1:Nat))],[]⟩,
   fun s Z=>(s.1<=p.threads.length/\(∀l∈p.threads.take s.1,(qB l V).length<=4096)/\∀k,k<=s.1->zb2 ((p.threads.take k).map fun l=>(zJ V l).length)<=4096)/\MxS w.heap.size Z L bP ((p.threads.take s.1).map fun l=>(zJ V l).length) s.2.2.1 s.2.2.2 s.2.1.1 s.2.1.2.1 s.2.1.2.2/\s.2.1.1.map (fun z=>z.1.map (·.1))=(p.threads.take s.1).map (zJ V)/\Bw w Z,fun s=>p.threads.length-s.1,(0,([],none,0),none,0),
   (cvE rfl rfl),⟨⟨UZ _,fun l hl=>Gp hl (by simp),fun k hk=>by rw[Nat.le_zero.1 hk];exact(by decide:(1:Nat)<=4096)⟩,hS,rfl,hbX⟩,?_⟩
  clear hS hbX;rintro⟨k,⟨ts,pT,cT⟩,ps,cs⟩ Z ⟨⟨hk,hle,hall⟩,hS,hz,hbZ⟩;dsimp only at hk hle hall hS hz ⊢;have hts:ts.length=k:=by
   have:=Gi List.length hz;rw[QJ,QJ,Qr] at this;omega
  refine biE (fun hc=>?_) fun hc=>?_
  ·have hc:(k:Int)<(p.threads.length:Int):=dT hc;have hkl:k<p.threads.length:=by omega
   have hkx:k<xs.length:=by omega
   have hZs:=hbZ.size;obtain⟨l,hlk⟩:∃l,p.threads[k]=l:=⟨_,rfl⟩;have hlm:l∈p.threads:=by rw[<- hlk];exact gM hkl
   have hQ:=hO.th l hlm;obtain⟨b3,o3,hp3,hb3,hat3⟩:=zhD (jO.below (hbZ.mono hB)) hkx;have hB2:b3<Z.heap.size:=by omega
   have e3:some (Value.slice p3 p.threads.length c3)=some (Value.slice (some ⟨b3,o3,none⟩) p.threads.length c3):=by rw[hp3]
   subst hp3;refine⟨k,rfl,hkl,?_⟩;refine⟨znK xs[k],by have:=zc (hat3 k hkx) (i:=0) (v:=znK xs[k]) rfl;exact this,?_⟩;obtain⟨hrm,hrb⟩:=hxr _ (gM hkx);have hxm:xs[k].1=l:=by
    have:=Gi (fun l=>l[k]?) hxs;simp only[KT,gE hkx,gE hkl,Ub,KY] at this;rw[this,hlk]
   have hpt:(p.threads.take (k+1))=p.threads.take k++[l]:=by rw[tsg hkl,hlk]
   refine cmo (zt7 (l:=xs[k].1) (vals:=V) ((hrm.below (hbZ.mono hB)).slr (by omega)) (hV.below hbZ) hv1 (by omega) (by rw[hxm];exact hQ) (hG.below hbZ) (fun hne a ha=>by have:=hrb hne a ha;omega)) ?_;rw[hVd,hxm];obtain⟨A,hA⟩:=nm (zb2 ((p.threads.take k).map fun l=>(zJ V l).length));have hpr0:=hall k (UW _);rintro e Y ⟨(⟨rk,pk,ck,hmle,rfl,hrk,ork,onk⟩ | ⟨hlong,rfl⟩),hbY⟩
   case inr =>
    have hSY:=hS.below hbY;rw[<- hA] at hpr0 ⊢;refine⟨((A*0:Nat):Int),(ze (by omega)).trans (by omega),?_⟩;refine brT ?_;refine brT ?_;refine zm k85 hSY.f1 (o:=0) (v := .slice none 0 0) rfl rfl (by show 0<1;decide) rfl fun Z1 fZ1 gZ1 sZ1=>?_;refine zm k4 ((gZ1.block (L+2) (hlt hSY.f2) (by simp)).trans hSY.f2) (o:=0) (v := .bool false) rfl rfl (by show 0<1;decide) rfl fun Z2 fZ2 gZ2 sZ2=>?_;refine⟨.slice none 0 0,zc (za ((gZ2.block (L+1) (hlt fZ1) (by simp)).trans fZ1)) (i:=0) rfl,.bool false,zc (za fZ2) (i:=0) rfl,.inr ⟨fun h=>?_,rfl⟩,?_⟩
    ·have:=h.1 l hlm;omega
    ·have hwY:=hbZ.trans (hbY.mono hZs);exact(hwY.trans (zl gZ1 hwY.size (by omega))).trans (zl gZ2 (by rw[sZ1];exact hwY.size) (by omega))
   have hrk:rk.map (·.1)=zJ V l:=hrk;have hrkl:rk.length=(zJ V l).length:=by rw[<- hrk,QJ]
   have hpl:(zJ V l).length<=4096:=by rw[QJ];exact hmle
   have hSY:=hS.below hbY;have hA2:zb2 ((p.threads.take (k+1)).map fun l=>(zJ V l).length)=A*rk.length:=by
    rw[hpt,QM];show zb2 ((p.threads.take k).map (fun l=>(zJ V l).length)++[(zJ V l).length])=_;rw[zn8,<- hrkl,hA]
   rw[<- hA] at hpr0 ⊢;obtain⟨nz,hnz⟩:∃nz:TpR,nz=(rk,pk,ck):=⟨_,rfl⟩;have hen:[Value.slice pk rk.length ck]=tpE.enc nz:=by rw[hnz];rfl
   have hAr:A*rk.length<=4096*4096:=Un hpr0 (by omega);refine⟨((A*rk.length:Nat):Int),by rw[<- QE];exact ze (by omega),?_⟩;refine brF ?_;refine biE (fun hbig=>?_) fun hbig=>?_
   ·have hbig:(4096:Int)<((A*rk.length:Nat):Int):=dT hbig;refine zm k85 hSY.f1 (o:=0) (v := .slice none 0 0) rfl rfl (by show 0<1;decide) rfl fun Z1 fZ1 gZ1 sZ1=>?_;refine zm k4 ((gZ1.block (L+2) (hlt hSY.f2) (by simp)).trans hSY.f2) (o:=0) (v := .bool false) rfl rfl (by show 0<1;decide) rfl fun Z2 fZ2 gZ2 sZ2=>?_;refine⟨.slice none 0 0,zc (za ((gZ2.block (L+1) (hlt fZ1) (by simp)).trans fZ1)) (i:=0) rfl,.bool false,zc (za fZ2) (i:=0) rfl,.inr ⟨fun h=>?_,rfl⟩,?_⟩
    ·have:=h.2.1 (k+1) hkl;rw[hA2] at this;omega
    ·have hwY:=hbZ.trans (hbY.mono hZs);exact(hwY.trans (zl gZ1 hwY.size (by omega))).trans (zl gZ2 (by rw[sZ1];exact hwY.size) (by omega))
   have hbig:¬(4096:Int)<((A*rk.length:Nat):Int):=dF hbig;have hpr:A*rk.length<=4096:=by omega
   refine⟨_,zc (za hSY.f3) (i:=0) rfl,?_⟩;refine⟨⟨by decide,by decide,rfl⟩,tpE.enc nz,by rw[<- hen];rfl,?_⟩;have hb1:Bw Y (Y.alloc (.cells (tpE.enc nz).toArray 101)):=zba _ _;have hS1:=hSY.below hb1;have ork1:=ork.below hb1;have onk1:=fun x hx=>(onk x hx).same (Z:=Y.alloc (.cells (tpE.enc nz).toArray 101)) fun{α E T c q l} _ ho=>ho.below hb1;unfold zd1 zaN;show SatR _ _;refine zyK hS1.rk (q9 tpE nz) (by have:=hb1.size;have:=hbY.size;omega) (by omega) fun p' c' U oU gU hat1=>?_;have f0U:=qK hS1.f0 hS1.rk (by decide) gU;have f1U:=qK hS1.f1 hS1.rk (by decide) gU;have f2U:=qK hS1.f2 hS1.rk (by decide) gU;have f3U:=qK hS1.f3 hS1.rk (by decide) gU;refine zm zyG f3U (o:=0) (v := .slice p' (ts++[nz]).length c') rfl rfl (by show 0<1;decide) rfl fun S fS gS sS=>?_;have hbZY:=hbZ.trans (hbY.mono hZs);have sY:=hbY.size;have sb1:=hb1.size;have hbU:Bw w U:=(hbZY.trans (hb1.mono (by omega))).trans (jo hS1.rk (by omega) (UW _) gU);have hbS:Bw w S:=hbU.trans (zl gS hbU.size (by omega));have hSS:MxS w.heap.size S L bP ((p.threads.take k).map fun l=>(zJ V l).length) ps cs (ts++[nz]) p' c':=by
    have kU:∀{α:Type} {E:Enc α} {T cc:Nat} {r:OA} {ll:List α},T≠101->T≠100->OwnS E T w.heap.size (Y.alloc (.cells (tpE.enc nz).toArray 101)) r cc ll->OwnS E T w.heap.size S r cc ll:=fun{α E T cc r ll} h1 h2 h=>qN (zaI h hS1.rk h1 gU) f3U h2 gS;have kB:∀{b:Nat} {o:Obj},b≠L+3->U.heap[b]?=some o->S.heap[b]?=some o:=fun{b o} hb h=>(gS.block b (hlt h) (by simpa using hb)).trans h;have kP:∀x:zep,PthO w.heap.size (Y.alloc (.cells (tpE.enc nz).toArray 101)) x->PthO w.heap.size S x:=fun x hx=>hx.same fun{α E T c q l} ht ho=>kU (by rcases ht with rfl | rfl <;> decide) (by rcases ht with rfl | rfl <;> decide) ho;refine⟨kB (by omega) f0U,kB (by omega) f1U,kB (by omega) f2U,fS,kU (by decide) (by decide) hS1.own,qN oU f3U (by decide) gS,fun z hz=>?_,fun z hz=>?_⟩
    ·rcases QN.1 hz with hz | hz
     ·exact kU (by decide) (by decide) (hS1.n1 z hz)
     ·rw[KB.1 hz,hnz];exact kU (by decide) (by decide) (ork1.lower hZs)
    ·rcases QN.1 hz with hz | hz
     ·exact fun x hx=>kP x (hS1.n2 z hz x hx)
     ·rw[KB.1 hz,hnz];exact fun x hx=>kP x ((onk1 x hx).mono hZs)
   clear hS1 ork1 onk1 hSY hS oU gU hat1 f0U f1U f2U f3U fS gS;refine⟨⟨by decide,by decide,rfl⟩,zF.enc rk.length,rfl,?_⟩;have hb2:Bw S (S.alloc (.cells (zF.enc rk.length).toArray 3)):=zba _ _;have hS2:=hSS.below hb2;have sbS:=hbS.size;have sb2:=hb2.size;unfold zd1 zaN;show SatR _ _;refine zrE hS2.own (q9 zF rk.length) (by omega) (by rw[QJ,Qr];omega) fun p2' c2' V' oV gV hat2=>?_;rw[za4] at gV;have hSV:=hS2.size oV gV;have hzz:((p.threads.take k).map fun l=>(zJ V l).length)++[rk.length]=(p.threads.take (k+1)).map fun l=>(zJ V l).length:=by
    rw[hpt,QM,hrkl];rfl
   rw[hzz] at hSV ⊢;refine nxI (by omega) ?_;refine⟨(k+1,(ts++[nz],p',c'),p2',c2'),⟨.cons rfl (.cons rfl (.cons rfl (.cons rfl (.cons rfl (.cons rfl (.cons (by show _=some (i64 (zb2 ((p.threads.take (k+1)).map fun l=>(zJ V l).length):Nat));rw[hA2];rfl) (.cons rfl (.cons rfl (.cons rfl .nil))))))))),rfl⟩,⟨⟨hkl,fun l' hl'=>?_,fun k' hk'=>?_⟩,hSV,?_,hbS.trans ((hb2.mono sbS).trans (jo hS2.own (by omega) (UW _) gV))⟩,zdc (by omega)⟩
   ·have hl':l'∈p.threads.take (k+1):=hl';rw[hpt] at hl';rcases QN.1 hl' with h | h
    ·exact hle l' h
    ·rw[KB.1 h];exact hmle
   ·have hk':k'<=k+1:=hk';by_cases e:k'=k+1
    ·rw[e,hA2];exact hpr
    ·exact hall k' (by omega)
   rw[hpt,QM,QM,hz,hnz];show _++[rk.map (·.1)]=_++[zJ V l];rw[hrk]
  ·have hc:¬(k:Int)<(p.threads.length:Int):=dF hc;obtain rfl:k=p.threads.length:=by omega
   rw[Qt] at hz hS hle ⊢;exact⟨((ts,pT,cT),ps,cs),(cvE rfl rfl),⟨hle,hall⟩,hS,hz,hbZ⟩
 rintro⟨⟨ts,pT,cT⟩,ps,cs⟩ X ⟨⟨hle,hall⟩,hS,hz,hbX⟩;dsimp only at hS hz ⊢;obtain⟨Q,hQ⟩:=nm (X.heap.size);refine⟨Unit,fun _=>⟨[(2,At0 L),(4,At0 (L+1)),(5,At0 (L+2)),(6,At0 (L+3)),(7,.slice ps (p.threads.map fun l=>(zJ V l).length).length cs),(13,At0 Q)],[]⟩,fun _ Z=>MxS w.heap.size Z L bP (p.threads.map fun l=>(zJ V l).length) ps cs ts pT cT/\Z.heap[Q]?=some (.cells #[.slice none 0 0] 85 (0,0))/\Z.heap.size=Q+1/\Bw w Z,?_,?_⟩
 ·refine⟨(),⟨.cons rfl (.cons rfl (.cons rfl (.cons rfl (.cons rfl (.cons (by rw[hQ];rfl) .nil))))),rfl⟩,hS.below ((zba X _)),by rw[hQ];exact zt X _,by rw[hQ];exact wz _ _,hbX.alloc hbX.size _⟩
 have hQw:w.heap.size+4<=Q:=by have:=hlt hS.f3;omega
 clear hS hbX hQ;clear X;rintro _ X ⟨hS,fQ,sX,hbX⟩;obtain⟨Ts,hTs⟩:=nm (p.threads.map (zJ V));have hTl:Ts.length=p.threads.length:=by rw[hTs,QJ]
 have htl:ts.length=p.threads.length:=by have:=Gi List.length hz;simpa using this
 have hsz:(p.threads.map fun l=>(zJ V l).length)=Ts.map List.length:=by rw[hTs,UF];rfl
 rw[hsz] at hS ⊢;rw[<- hTs] at hz;have hsl1:(Ts.map List.length).length<=1000:=by rw[QJ];omega
 have hsl2:∀n∈Ts.map List.length,n<=1000000:=fun n hn=>by
  rw[hTs,UF] at hn;obtain⟨l,hl,rfl⟩:=UI.1 hn;have:=hle l hl;show((qB l V).map jN).length<=_;rw[QJ];omega
 have hmemT:∀z∈ts,∀x∈z.1,PathB p.init.length x.1:=fun z hz' x hx=>by
  have h1:z.1.map (·.1)∈Ts:=by rw[<- hz];exact UI.2 ⟨z,hz',rfl⟩
  rw[hTs] at h1;obtain⟨l,hl,he⟩:=UI.1 h1;exact hpb l hl x.1 (by rw[he];exact UI.2 ⟨x,hx,rfl⟩)
 refine cmo zsI ?_;rintro e V1 ⟨rfl,fo,sV1,hbV1⟩;have hI:=zwi fo (hS.own.row.below hbV1) (fun a ha=>by have:=(zz hS.own ha).2.1;omega) hsl1 hsl2;have hS1:=hS.below hbV1;have hb1:Bw w V1:=zst hbX hbV1;have hG0:Gath zjA 92 85 Q V1.heap.size Q V1 (NInM w.heap.size) [] (fun k=>k=Q\/k=L+1\/k=L+2) V1 :=
  ⟨UW _,.inl rfl,fun k hk=>by have:=hlt hS1.f3;omega,⟨none,0,zb hbV1 fQ,OwnS.nil,fun a h=>by cases h⟩,fun x hx=>(by cases hx),Gb _ _⟩
 obtain⟨f,hf⟩:∃f:List Nat->Option MixD,f=fun ds=>ziI p.init (js Ts ds):=⟨_,rfl⟩;have hmix:qu p V=(qt (Ts.map List.length)).filterMap f:=by rw[hf,hTs];rfl
 have hIter:=Gath.iter (σ:=List (List Nat)) (E:=zjA) (T:=92) (TS:=85) (B:=Q) (n0:=V1.heap.size) (L:=Q) (W:=V1) (NIn:=NInM w.heap.size) (f:=fun pre (ms:List MixX)=>ms.map (·.m)=pre.filterMap f/\ms.length<=pre.length/\∀ds∈pre,(f ds).isSome=true) (zj0 _) (by omega);have hOkI:∀h:(∀ds∈qt (Ts.map List.length),(f ds).isSome=true),zdr p V:=fun h=>⟨hle,hall,by rw[hf,hTs] at h;exact h⟩;have hOkE:zdr p V->∀ds∈qt (Ts.map List.length),(f ds).isSome=true:=fun h=>by rw[hf,hTs];exact h.2.2
 have hQL:L+2<Q:=by omega
 have h1Q:=hS1.f1;have h2Q:=hS1.f2;refine zdW (zgn _) rfl (lb := #[At0 X.heap.size]) rfl rfl hI (UW _) (fun k hk=>⟨?_,rfl⟩) (fun pre vs W ⟨l,q,_,h,_⟩=>by rw[h];rfl) (by decide)
  (fun k=>k=Q\/k=L+1\/k=L+2) (fun pre F Y=>(F (L+1)/\F (L+2))/\∃ms,(ms.map (·.m)=pre.filterMap f/\ms.length<=pre.length/\∀ds∈pre,(f ds).isSome=true)/\Gath zjA 92 85 Q V1.heap.size Q V1 (NInM w.heap.size) ms F Y)
  (fun ex pre F Y=>(∀k,F k->k<Y.heap.size)/\V1.heap.size<=Y.heap.size/\ex = .ret/\¬zdr p V/\Y.heap[L+1]?=some (.cells #[.slice none 0 0] 85 (0,0))/\Y.heap[L+2]?=some (.cells #[.bool false] 4 (0,0))/\Bw w Y) (fun k hk=>?_) ⟨fun s F A C ⟨h1,h2⟩ hs=>⟨h1,hIter.step s F A C h2 hs⟩,fun s F A k ⟨_,h2⟩ hk=>hIter.lt s F A k h2 hk⟩
  (fun ex=>⟨fun pre F A C ⟨g1,g2,g3,g4,g5,g6,g7⟩ hs=>⟨fun k hk=>nL (g1 k hk) hs.size,UL g2 hs.size,g3,g4,(hs.same _ (hlt g5) (.inl ⟨by omega,fun h=>h⟩)).trans g5,(hs.same _ (hlt g6) (.inl ⟨by omega,fun h=>h⟩)).trans g6,g7.trans ⟨hs.os,hs.tape,hs.output,hs.size,fun k hk=>hs.same k (by have:=g7.size;omega) (.inl ⟨by have:=hb1.size;omega,fun h=>h⟩)⟩⟩,fun pre F A k ⟨g1,_⟩ hk=>⟨g1 k hk,fun h=>h⟩⟩) ⟨⟨.inr (.inl rfl),.inr (.inr rfl)⟩,[],⟨rfl,UZ _,fun ds h=>by cases h⟩,hG0⟩ ?_ ?_ ?_
 ·rcases hk with(rfl | ⟨a,ha,rfl⟩) | h
  ·omega
  ·have:=(zz hS.own ha).2.1;omega
  ·exact h.elim
 ·rcases hk with rfl | ⟨a,ha,rfl⟩
  ·omega
  ·obtain⟨_,_,cur,hc⟩:=zz hS.own ha;rintro(e | e | e)
   ·rw[e,fQ] at hc;simp at hc
   ·rw[e,hS.f1] at hc;simp at hc
   ·rw[e,hS.f2] at hc;simp at hc
 ·rintro yl pre ds vs F Y hyl hpre hJ0 ⟨l,qd,hlast,rfl,hsl,hcel⟩ hfy ⟨lo,hlo⟩;have hdx:ds=l:=by simpa using hlast
  subst hdx;refine⟨rfl,F,KeepsG.refl _ _,hJ0,?_⟩;rintro O Y2 hY2 ⟨hFL,ms,⟨hms,hml,hsm⟩,hG2⟩;have hslY:SlR zF Y2 qd ds:=by
   rw[hY2];refine jr hsl fun a ha=>zj fun e=>?_;obtain⟨cur,hcur⟩:=hcel a ha;rw[e,hlo] at hcur
   cases hcur
  obtain⟨hdl,hdlt⟩:=za6 (hpre.subset (JM _ (KB.2 rfl)));have hdm:ds∈qt (Ts.map List.length):=hpre.subset (JM _ (KB.2 rfl));rw[QJ] at hdl;have hY2s:=hG2.size;have old:∀{k:Nat} {ob:Obj},k<Q->V1.heap[k]?=some ob->Y2.heap[k]?=some ob:=fun{k ob} hk h=>(hG2.old.block k hk).trans h;have g0:=old (by omega) hS1.f0;have g3:=old (by omega) hS1.f3;have kR:∀{α:Type} {E:Enc α} {T cc:Nat} {r:OA} {ll:List α},T≠85->OwnS E T w.heap.size X r cc ll->OwnS E T w.heap.size Y2 r cc ll:=fun{α E T cc r ll} hT h=>h.same fun a ha=>by
   have hq:a.block≠Q:=fun e=>by
    obtain⟨_,_,cur,hc⟩:=zz h ha;rw[e,fQ] at hc;simp at hc;exact hT hc.2.symm
   have:=(zz h ha).2.1;exact(hG2.old.block _ (by omega)).trans (hbV1.block _ this)
  have rkY:=kR (by decide) hS.rk;have n1Y:=fun z hz=>kR (by decide) (hS.n1 z hz);have n2Y:∀z∈ts,∀x∈z.1,PthO w.heap.size Y2 x:=fun z hz x hx=>(hS.n2 z hz x hx).same fun{α E T c q l} ht ho=>kR (by rcases ht with rfl | rfl <;> decide) ho;have fPY:Y2.heap[bP]?=some (.cells pc.toArray 29 (0,0)):=old (by omega) ((hb1.block bP hbP).trans fP);have hbwY:Bw w Y2:=hb1.trans (hG2.old.mono (by omega));refine⟨Nat×List zep×OA×Nat,fun s=>⟨[(2,At0 L),(4,At0 (L+1)),(5,At0 (L+2)),(6,At0 (L+3)),(13,At0 Q),(15,.slice s.2.2.1 s.2.1.length s.2.2.2),(58,.slice qd ds.length ds.length),(59,i64 ds.length),(60,i64 (s.1:Nat))],[]⟩,
   fun s Z=>s.1<=ds.length/\OwnS j7 145 Y2.heap.size Z s.2.2.1 s.2.2.2 s.2.1/\s.2.1.map (·.1)=js (Ts.take s.1) (ds.take s.1)/\s.2.1.length=s.1/\(∀x∈s.2.1,∃z∈ts,x∈z.1)/\Bw Y2 Z,fun s=>ds.length-s.1,(0,[],none,0),
   (cvE rfl rfl),⟨UZ _,OwnS.nil,by simp[js],rfl,fun x hx=>(by cases hx),Gb _ _⟩,?_⟩
  rintro⟨k,Cs,pC,cC⟩ Z ⟨hk,oC,hCs,hCl,hCm,hbZ⟩;dsimp only at hk oC hCs hCl hCm ⊢;have hZs:=hbZ.size;refine biE (fun hc=>?_) fun hc=>?_
  ·have hc:(k:Int)<(ds.length:Int):=dT hc;have hkl:k<ds.length:=by omega
   have hkt:k<ts.length:=by omega
   obtain⟨z,hzk⟩:∃z,ts[k]=z:=⟨_,rfl⟩;have hzm:z∈ts:=by rw[<- hzk];exact gM hkt
   have hkT:k<Ts.length:=by omega
   have hzT:Ts[k]=z.1.map (·.1):=by
    have h1:Ts[k]?=some (z.1.map (·.1)):=(by rw[<- hz,KT,gE hkt,hzk];rfl);rw[gE hkT] at h1;exact Uc h1
   obtain⟨d,hd⟩:∃d,ds[k]=d:=⟨_,rfl⟩;have hdz:d<z.1.length:=by
    have:=hdlt k (Ts[k].length) d (by rw[KT,gE hkT];rfl) (by rw[gE hkl,hd]);rw[hzT,QJ] at this;exact this
   obtain⟨x,hx⟩:∃x,z.1[d]=x:=⟨_,rfl⟩;have hxm:x∈z.1:=by rw[<- hx];exact gM hdz
   have hpick:js (Ts.take (k+1)) (ds.take (k+1))=js (Ts.take k) (ds.take k)++[x.1]:=by
    rw[tsg hkT,tsg hkl,hd,hzT,zir _ _ _ _ (by rw[Qr,Qr];omega),KT,gE hdz,hx];rfl
   obtain⟨bD,oD,hpD,hlD,hatD⟩:=(hslY.below hbZ).at hkl;obtain⟨bT,oT,hpT,hlT,hatT⟩:=(rkY.below hbZ).row.at hkt;obtain⟨bz,oz,hpz,hlz,hatz⟩:=((n1Y z hzm).below hbZ).row.at hdz;subst hpD;subst hpT;refine⟨k,rfl,hkl,?_⟩;refine⟨i64 d,by have:=zc (hatD k hkl) (i:=0) (v:=i64 d) (by rw[hd];rfl);exact this,?_⟩;refine⟨_,zc (za (zb hbZ g3)) (i:=0) rfl,?_⟩;refine⟨k,rfl,hkt,?_⟩;refine⟨.slice z.2.1 z.1.length z.2.2,by have:=zc (hatT k hkt) (i:=0) (v := .slice z.2.1 z.1.length z.2.2) (by rw[hzk];rfl);exact this,?_⟩;rw[hpz];refine⟨d,rfl,hdz,?_⟩;refine⟨j7.enc x,j7.len x,by rw[<- hx];exact hatz d hdz,hlz,?_⟩;refine⟨⟨by decide,by decide,rfl⟩,j7.enc x,zbs (j7.len x) rfl,?_⟩;have hb2:Bw Z (Z.alloc (.cells (j7.enc x).toArray 145)):=zba _ _;have sb2:=hb2.size;unfold zd1 zaN;show SatR _ _;refine zyM (oC.below hb2) (q9 j7 x) (by omega) (by omega) fun p' c' U oU gU hat1=>?_;refine nxI (by omega) ?_;refine⟨(k+1,Cs++[x],p',c'),(cvE rfl rfl),⟨hkl,oU,by rw[QM,hCs,hpick];rfl,by rw[lap,hCl];rfl,fun y hy=>?_,hbZ.trans ((hb2.mono hZs).trans (jo (oC.below hb2) (by omega) (UW _) gU))⟩,zdc (by omega)⟩;rcases QN.1 hy with hy | hy
   ·exact hCm y hy
   ·rw[KB.1 hy];exact⟨z,hzm,hxm⟩
  have hc:¬(k:Int)<(ds.length:Int):=dF hc;obtain rfl:k=ds.length:=by omega
  rw[Qt,JE (by omega)] at hCs;obtain⟨q1,y1,q2,y2,q3,y3,q4,y4,hvs,_⟩:=hP0.v.h;have hpc1:pc[1]?=some (.slice q1 p.init.length y1):=by rw[hvs,<- hil];rfl
  have hZw:w.heap.size<=Z.heap.size:=by have:=hbwY.size;omega
  refine⟨_,zc (za (zb hbZ g0)) (i:=0) rfl,?_⟩;refine cmo (zoK (zb hbZ fPY) hpc1 h2 ((hinit.below (((zst hbwY hbZ)).mono hB)).slr (by omega)) hi6 oC.row (fun x hx=>?_) (fun x hx=>?_) (by omega)) ?_
  ·obtain⟨z,hz1,hx1⟩:=hCm x hx;obtain⟨o1,o2,o3,o4⟩:=n2Y z hz1 x hx1;refine⟨fun a ha=>?_,(o1.below hbZ).row,(o2.below hbZ).row,(o3.below hbZ).row,(o4.below hbZ).row⟩;rcases ha with ha | ha | ha
   ·exact(zz (o2.below hbZ) ha).2.1
   ·exact(zz (o3.below hbZ) ha).2.1
   ·exact(zz (o4.below hbZ) ha).2.1
  ·obtain⟨z,hz1,hx1⟩:=hCm x hx;exact hmemT z hz1 x hx1
  rintro e U ⟨⟨vs,hres⟩,hbU⟩;have hfd0:f ds=ziI p.init (Cs.map (·.1)):=by rw[hf,hCs]
  cases hmx:ziI p.init (Cs.map (·.1)) with
  | none =>
   rw[hmx] at hres hfd0;obtain⟨rfl,hvz⟩:=hres;have hvl:vs.length=336:=by rw[hvz];exact jY
   have hv1:vs.all Value.oneCell'=true:=by rw[hvz];kernel_rfl
   have hUs:=hbU.size;refine zo (X:=U) (v := .agg vs.toArray) k92 hvl jY hv1 fun V' hbV fV sV=>?_;refine brT ?_;have hbY2V:Bw Y2 V':=(hbZ.trans (hbU.mono hZs)).trans (hbV.mono (by omega));have hV2:=hbY2V.size;have g1:V'.heap[L+1]?=_:=zb hbY2V (old (by omega) hS1.f1);have g2:V'.heap[L+2]?=_:=zb hbY2V (old (by omega) hS1.f2);refine zm k85 g1 (o:=0) (v := .slice none 0 0) rfl rfl (by show 0<1;decide) rfl fun Z1 fZ1 gZ1 sZ1=>?_;refine zm k4 ((gZ1.block (L+2) (hlt g2) (by simp)).trans g2) (o:=0) (v := .bool false) rfl rfl (by show 0<1;decide) rfl fun Z2 fZ2 gZ2 sZ2=>?_;have hFlt:=hG2.lt;have b2:Bw w Z2:=(((zst hbwY hbY2V)).trans (zl gZ1 (by have:=hbwY.size;omega) (by omega))).trans (zl gZ2 (by have:=hbwY.size;omega) (by omega));refine⟨F,⟨fun k hk=>by have:=hFlt k hk;omega,by omega,rfl,fun h=>?_,(gZ2.block (L+1) (hlt fZ1) (by simp)).trans fZ1,fZ2,b2⟩,(((KeepsG.below hbY2V fun k h => .inl h):KeepsG F F Y2 V').trans (KeepsG.grown (F:=F) gZ1 hFL.1)).trans (KeepsG.grown (F:=F) gZ2 hFL.2)⟩;have:=hOkE h ds hdm;rw[hfd0] at this
   cases this
  | some mx =>
  rw[hmx] at hres;have hfd:f ds=some mx:=by rw[hfd0,hmx]
  obtain⟨rfl,x1,x2,x3,x4,y1,y2,y3,y4,xs',ys',hvs',m1,m2,m3,m4,m5,m6,m7,m8⟩:=hres;obtain⟨nx,hnx⟩:∃nx:MixX,nx=⟨mx,x1,y1,x2,y2,x3,y3,x4,y4,xs',ys'⟩:=⟨_,rfl⟩;have hen:vs=zjA.enc nx:=by rw[hvs',hnx];rfl
  have hvl:vs.length=336:=by rw[hen];exact zjA.len nx
  have hv1:vs.all Value.oneCell'=true:=by rw[hen];exact zmA nx
  have hUs:=hbU.size;refine zo (X:=U) (v := .agg vs.toArray) k92 hvl jY hv1 fun V' hbV fV sV=>?_;have fV:V'.heap[U.heap.size]?=some (.cells vs.toArray 92 (0,0)):=fV;refine brF ?_;have hbY2V:Bw Y2 V':=(hbZ.trans (hbU.mono hZs)).trans (hbV.mono (by omega));obtain⟨pr,cr,h4,h5,h6⟩:=hG2.row;refine⟨_,zc (za (zb hbY2V h4)) (i:=0) rfl,?_⟩;refine⟨vs,hvl,za fV,hlt fV,?_⟩;refine⟨⟨by decide,by decide,jY⟩,zjA.enc nx,by rw[<- hen];exact zbs hvl jY,?_⟩;have hpl:pre.length<1000000000:=by
   obtain⟨t,ht⟩:=hpre;have h7:(pre++[ds]++t).length=qi (Ts.map List.length).reverse:=by
    rw[ht];unfold qt;rw[QJ,KU]
   have h8:qi (Ts.map List.length).reverse<=4096:=by
    have h9:=hall p.threads.length (UW _);rw[Qt,hsz] at h9;rw[zgw];exact h9
   simp only[lap,Qp] at h7;omega
  have hnw:∀(G:Nat->Prop) (S:Wd),(∀k,Y2.heap.size<=k->k<V'.heap.size->S.heap[k]?=V'.heap[k]?)->(∀k,Y2.heap.size<=k->k<V'.heap.size->G k)->NInM w.heap.size G S nx:=by
   intro G S hs hg;have kp:∀{α:Type} {E:Enc α} {T cc:Nat} {r:OA} {ll:List α},OwnS E T Z.heap.size U r cc ll->RowIn E T w.heap.size G S r cc ll:=fun{α E T cc r ll} h=>by
    have ol:∀a,r=some a->Y2.heap.size<=a.block/\a.block<V'.heap.size:=fun a ha=>⟨by have:=(zz h ha).1;omega,by have:=(zz h ha).2.1;omega⟩;exact⟨OwnS.lower ((h.below hbV).same fun a ha=>hs _ (ol a ha).1 (ol a ha).2) hZw,fun a ha=>hg _ (ol a ha).1 (ol a ha).2⟩
   rw[hnx];exact⟨m3,m6,kp m1,kp m2,kp m4,fun y hy=>kp (m5 y hy),kp m7,fun y hy=>kp (m8 y hy)⟩
  obtain⟨v,Y5,hrun,S,hrun2,F',hG',hK',hFF'⟩:=hG2.step (P:=PG) (ty:=85) (cap1:=1) (zj0 _) (by decide) Tryz.underlying85 k92 rfl rfl (by show _=336;exact jY) k85 rfl (by omega) (UW _) hbY2V nx (by omega) (by show(ms.length+1)*2488<=_;omega) hnw pr cr h4;unfold zd1 zaN;refine SatR.mk hrun ?_;refine SatR.mk hrun2 ?_;refine⟨F',⟨⟨hFF' _ hFL.1,hFF' _ hFL.2⟩,_,⟨?_,by rw[lap,lap];show ms.length+1<=pre.length+1;omega,fun d hd=>?_⟩,hG'⟩,hK'⟩
  case refine_2 =>
   rcases QN.1 hd with h | h
   ·exact hsm d h
   ·rw[KB.1 h,hfd];rfl
  rw[QM,List.filterMap_append,hms];show _++[nx.m]=_++List.filterMap f [ds];rw[show List.filterMap f [ds]=[mx] by rw[List.filterMap_cons,hfd];rfl,hnx]
 ·rintro D F Y hD hfD ⟨hFL,ms,⟨hms,hml,hsm⟩,hG⟩ hdef;obtain⟨pr,cr,h4,h5,h6⟩:=hG.row;have hYs:=hG.size;have old:∀{k:Nat} {ob:Obj},k<Q->V1.heap[k]?=some ob->Y.heap[k]?=some ob:=fun{k ob} hk h=>(hG.old.block k hk).trans h;have g1:=old (by omega) hS1.f1;have g2:=old (by omega) hS1.f2;refine⟨_,zc (za h4) (i:=0) rfl,?_⟩;refine zm k85 g1 (o:=0) (v := .slice pr ms.length cr) rfl rfl (by show 0<1;decide) rfl fun Z1 fZ1 gZ1 sZ1=>?_;refine zm k4 ((gZ1.block (L+2) (hlt g2) (by simp)).trans g2) (o:=0) (v := .bool true) rfl rfl (by show 0<1;decide) rfl fun Z2 fZ2 gZ2 sZ2=>?_;have k2:∀k,k<Y.heap.size->k≠L+1->k≠L+2->Z2.heap[k]?=Y.heap[k]?:=fun k hk n1 n2=>(gZ2.block k (by rw[sZ1];exact hk) (by simpa using n2)).trans (gZ1.block k hk (by simpa using n1));refine⟨_,rfl,(k2 D (hlt hdef) (by omega) (by omega)).trans hdef,?_⟩;have f2':=(gZ2.block (L+1) (hlt fZ1) (by simp)).trans fZ1;have kp:∀a:Addr,a.block≠L+1->a.block≠L+2->F a.block->a.block<Y.heap.size->(Z2.putObj D (.deferred none)).heap[a.block]?=Y.heap[a.block]?:=fun a n1 n2 h2 h3=>(zj fun e=>by rw[<- e] at hfD;exact hfD h2).trans (k2 _ h3 n1 n2);have hwY:=hb1.trans (hG.old.mono (by omega));have b2:=(hwY.trans (zl gZ1 hwY.size (by omega))).trans (zl gZ2 (by have:=hwY.size;omega) (by omega));have ne:∀{α:Type} {E:Enc α} {T B' cc:Nat} {r:OA} {ll:List α},T≠85->T≠4->OwnS E T B' Y r cc ll->∀a,r=some a->a.block≠L+1/\a.block≠L+2:=fun{α E T B' cc r ll} t1 t2 h a ha=>by
   obtain⟨_,_,cur,hc⟩:=zz h ha;refine⟨fun e=>?_,fun e=>?_⟩
   ·rw[e,g1] at hc;simp at hc;exact t1 hc.2.symm
   ·rw[e,g2] at hc;simp at hc;exact t2 hc.2.symm
  refine⟨.slice pr ms.length cr,zc (za ((zj (by omega)).trans f2')) (i:=0) rfl,.bool true,zc (za ((zj (by omega)).trans fZ2)) (i:=0) rfl,.inl ⟨hOkI hsm,ms,pr,cr,rfl,by rw[hms,hmix],?_,fun x hx=>?_⟩,qC b2 (by omega) _⟩
  ·exact OwnS.lower (h5.same fun a ha=>kp a (ne (by decide) (by decide) h5 a ha).1 (ne (by decide) (by decide) h5 a ha).2 (h6 a ha) (zz h5 ha).2.1) (by omega)
  ·exact(hG.nest x hx).same fun{α E T c q l} t1 t2 t3 hr=>⟨hr.own.same fun a ha=>kp a (ne t2 t3 hr.own a ha).1 (ne t2 t3 hr.own a ha).2 (hr.inF a ha) (zz hr.own ha).2.1,fun a ha=>(zz hr.own ha).1⟩
 ·rintro D ex pre F Y hD hfD hpre ⟨g1,g2,rfl,g4,g5,g6,g7⟩ hdef;refine⟨_,rfl,hdef,?_⟩;refine⟨.slice none 0 0,zc (za ((zj (by have:=hlt hS1.f3;omega)).trans g5)) (i:=0) rfl,.bool false,zc (za ((zj (by have:=hlt hS1.f3;omega)).trans g6)) (i:=0) rfl,.inr ⟨g4,rfl⟩,qC g7 (by have:=hb1.size;omega) _⟩
end
def ja (m:MixD):List ExD:=if jx m 1=0 then[] else zem m
abbrev q8 (p:Prg) (V:List UInt8):List ExD:=(qu p V).flatMap ja
def zas (p:Prg) (V:List UInt8) (most:Nat):Prop:=zes p=some V/\zdr p V/\((qu p V).map fun m=>jx m 20001).sum<=most
structure MixC (m:MixD):Prop where
 rl:m.rs.length<=48
 wl:m.wr.length<=6
 rs:∀r∈m.rs,r.1<48/\r.2.length<=1000/\∀s∈r.2,s<48
 wr:∀w∈m.wr,w.length<=48
structure CandB (p:Prg) (V:List UInt8):Prop where
 pb:∀l∈p.threads,∀P∈zJ V l,PathB p.init.length P
 ml:zdr p V->(qu p V).length<=5000
 mc:zdr p V->∀m∈qu p V,MixC m
 mb:zdr p V->((qu p V).map fun m=>jx m 20001).sum<=20000->∀m∈qu p V,jx m 1≠0->MixB m
 len:zdr p V->((qu p V).map fun m=>jx m 20001).sum<=20000->(q8 p V).length<=30000
theorem znk{lim:Nat}:∀(fs:List (List Nat)) (n:Nat),n<=lim->∀k,zf2 lim fs n=some k->k<=lim
 | [],n,h,k,e=>by cases e;exact h
 | f::fs,n,h,k,e=>by
  unfold zf2 at e
  split at e
  ·cases e
  ·exact znk fs _ (Qy ..) k e
theorem znl{lim len:Nat}:∀(m k n:Nat),n<=lim->zht lim len m k n<=lim
 | 0,k,n,h=>h
 | m+1,k,n,h=>by
  unfold zht
  split
  ·exact znl m _ _ (Qy ..)
  ·exact h
theorem znj{lim:Nat}:∀(ws:List (List Nat)) (n:Nat),n<=lim->zhs lim ws n<=lim
 | [],n,h=>h
 | w::ws,n,h=>znj ws _ (znl _ _ _ h)
theorem ztF{lim:Nat}(m:MixD)(h:1<=lim):jx m lim<=lim:=by
 unfold jx
 split
 ·exact UZ _
 ·rename_i n e;exact znj _ _ (znk _ _ h _ e)
theorem zlS(ths:List (List InsD)):∀(n:Nat) (vals V:List UInt8),1<=vals.length/\ju vals=vals->zeQ ths n vals=some V->1<=V.length/\ju V=V
 | 0,vals,V,h,e=>by cases e
 | n+1,vals,V,h,e=>by
  unfold zeQ at e
  split at e
  ·cases e
  ·split at e
   ·cases e
   ·split at e
    ·cases e;exact h
    ·refine zlS ths n _ V ⟨?_,zbI _⟩ e;have:=zke ths h.2;show 1<=(zaB ths vals).length;omega
theorem zhW{p:Prg}{V:List UInt8}(hO:OkG p)(h:zes p=some V):1<=V.length/\ju V=V :=
 zlS _ _ _ _ ⟨zkl hO.i1,zbI _⟩ h
theorem zsb{l:List Nat}(k:Nat):(l.take k).sum<=l.sum:=by
 have:l.sum=(l.take k).sum+(l.drop k).sum:=by rw[<- List.sum_append,JO]
 omega
theorem zvP{m:MixD}{xs ys:List zbk}{lim:Nat}(h1:xs.map (·.1)=m.rs.map (·.2))(h2:ys.map (·.1)=m.wr):ztG lim (xs.map (·.1)) (ys.map (·.1))=jx m lim:=by
 rw[h1,h2];rfl
section
variable{w:Wd}{B most:Nat}{pc:List Value}{p:Prg}
theorem zuj(hB:B<=w.heap.size)(hP:PrgX B w pc p)(hG:GlobE w)(hok:zbp p=true)(hm20:most<=20000)(hCB:∀V,ju V=V->CandB p V) :
  Calls PG 8 #[.agg pc.toArray,i64 most] w fun e w'=>((∃V,zas p V most/\∃(xs:List zlp) (q:OA) (c:Nat),e = .returned (.tuple #[.slice q xs.length c,i64 0])/\xs.map (·.1)=q8 p V/\OwnS exE 78 w.heap.size w' q c xs/\∀x∈xs,OwnS evE 80 w.heap.size w' x.2.1 x.2.2 x.1.ev)\/((∀V,¬zas p V most)/\e = .returned (.tuple #[.slice none 0 0,i64 5])))/\Bw w w':=by
 have hO:=zhG hok;refine qA 74 [.agg pc.toArray,i64 most] (.c .p (.s .p (.s .p (.s .p (.c .p (.s .p (.s .p (.c .p (.c .p (.c .p .p)))))))))) Tryz.func8 ?_;obtain⟨L,hL⟩:=nm (w.heap.size);have a6:=hP.v.size;refine⟨Unit,fun _=>⟨[(1,i64 most),(2,At0 L)],[]⟩,fun _ X=>X.heap[L]?=some (.cells pc.toArray 29 (0,0))/\L<X.heap.size/\Bw w X,⟨(),⟨.cons rfl (.cons (by rw[hL];rfl) .nil),rfl⟩,by rw[hL];exact zt w _,by rw[hL];exact hlt (zt w _),(zba w _)⟩,?_⟩;rintro _ X ⟨f0,sX,n⟩;refine brN (Ue (by omega)) (brN (Ue (by omega)) ⟨pc,a6,za f0,hlt f0,cmo (zga (UL hB n.size) (hP.v.below (n.mono hB)) (hG.c.below n)) ?_⟩);rintro e Y ⟨m,rfl,hm,ak⟩;have bc:m=0:=hm.2 hok;subst bc;refine brF ?_;have al:=zst n ak;have f0:=zb ak f0;refine⟨pc,a6,za f0,hlt f0,cmo (zrI (UL hB al.size) (hP.below (al.mono hB)) (hG.below al) hok) ?_⟩;rintro e Z ⟨(⟨V,qv,cv,af,rfl,oV⟩ | ⟨af,rfl⟩),f⟩
 case inr =>
  refine brT ⟨.inr ⟨fun V h=>?_,rfl⟩,(zst al f)⟩;have:=h.1;rw[af] at this
  cases this
 refine brF ?_;obtain⟨bb,az⟩:=zhW hO af;have hQ:=hCB V az;have au:∀V',zas p V' most->V'=V:=fun V' h=>by
  have:=h.1;rw[af] at this;exact(Uc this).symm
 have ae:=zst al f;have f0:=zb f f0;clear n ak al;obtain⟨V0,bm⟩:=nm (V);refine⟨Bool×List MixX×OA×Nat,fun s=>⟨[(1,i64 most),(8,.slice s.2.2.1 s.2.1.length s.2.2.2),(9,.bool s.1)],[]⟩,fun s U=>((s.1=true/\zdr p V/\s.2.1.map (·.m)=qu p V/\OwnS zjA 92 w.heap.size U s.2.2.1 s.2.2.2 s.2.1/\∀x∈s.2.1,NInM w.heap.size (fun k=>w.heap.size<=k) U x)\/(s.1=false/\¬zdr p V))/\Bw w U,?_,?_⟩
 ·refine cmo (zsR f0 (UL hB ae.size) (hP.below (ae.mono hB)) hO (hG.below ae) oV.row bb az hQ.pb) ?_;rintro e U ⟨(⟨t,d,q,c,rfl,ag,oM,nM⟩ | ⟨t,rfl⟩),aa⟩
  case inr=>exact⟨(false,[],none,0),(cvE rfl rfl),.inr ⟨rfl,t⟩,(zst ae aa)⟩
  exact⟨(true,d,q,c),(cvE rfl rfl),.inl ⟨rfl,t,ag,oM.lower ae.size,fun x j=>(nM x j).lower ae.size⟩,(zst ae aa)⟩
 clear oV f ae f0;rintro⟨ok,d,q,c⟩ X ⟨a5,n⟩;dsimp only at a5 ⊢;rcases a5 with⟨rfl,t,ag,oM,nM⟩ | ⟨rfl,t⟩
 case inr =>
  exact brT ⟨.inr ⟨fun V' h=>t (by rw[<- au V' h];exact h.2.1),rfl⟩,n⟩
 refine brF ?_;have bp:d.length<=5000:=by have:=hQ.ml t;rw[<- ag,QJ] at this;exact this
 have be:∀x∈d,MixC x.m:=fun x j=>hQ.mc t x.m (by rw[<- ag];exact UI.2 ⟨x,j,rfl⟩);have am:((qu p V).map fun m=>jx m 20001).sum=(d.map fun x=>jx x.m 20001).sum:=by
  rw[<- ag,UF];rfl
 have aw:∀k,((d.take k).map fun x=>jx x.m 20001).sum<=(d.map fun x=>jx x.m 20001).sum:=fun k=>by
  have:=zsb (l:=d.map fun x=>jx x.m 20001) k;rw[<- List.map_take] at this;exact this
 obtain⟨an,av⟩:=nm ((d.map fun x=>jx x.m 20001).sum);have ay:∀{Z:Wd} {k lim:Nat} (hk:k<d.length),OwnS zjA 92 w.heap.size Z q c d->(∀x∈d,NInM w.heap.size (fun k=>w.heap.size<=k) Z x)->1<=lim->lim<=100000->∃b o,q=some ⟨b,o,none⟩/\Calls PG 27 #[.pointer (some ⟨b,o+k*336,none⟩),i64 lim] Z fun e w'=>e = .returned (i64 (jx d[k].m lim:Nat))/\Z=w':=fun{Z k lim} hk oM nM h1 h2=>by
  obtain⟨b,o,hq,hb,ao⟩:=oM.row.at hk;have j:=nM d[k] (gM hk);have aq:=be d[k] (gM hk);have bo:d[k].xs.length=d[k].m.rs.length:=by have:=Gi List.length j.e2;simpa using this
  have bn:d[k].ys.length=d[k].m.wr.length:=by have:=Gi List.length j.e3;simpa using this
  refine⟨b,o,hq,?_⟩;have:=zvG (lim:=lim) (r := .slice d[k].p1 d[k].m.rs.length d[k].c1) (ao k hk) j.r2.own.row j.r3.own.row (fun y hy=>?_) (fun y hy=>?_) (by have:=aq.rl;omega) (by have:=aq.wl;omega) h1 h2
  ·rw[zvP j.e2 j.e3] at this;exact this
  ·have h3:y.1∈d[k].m.rs.map (·.2):=by rw[<- j.e2];exact UI.2 ⟨y,hy,rfl⟩
   obtain⟨r,hr,he⟩:=UI.1 h3;rw[<- he];exact(aq.rs r hr).2.1
  ·have h3:y.1∈d[k].m.wr:=by rw[<- j.e3];exact UI.2 ⟨y,hy,rfl⟩
   have:=aq.wr _ h3;omega
 refine⟨Unit,fun _=>⟨[(8,.slice q d.length c),(10,i64 an)],[]⟩,fun _ Z=>an<=most/\X=Z,?_,?_⟩
 ·refine⟨Nat,fun k=>⟨[(1,i64 most),(8,.slice q d.length c),(10,i64 (((d.take k).map fun x=>jx x.m 20001).sum:Nat)),(40,i64 d.length),(41,i64 (k:Nat))],[]⟩,
   fun k Z=>(k<=d.length/\((d.take k).map fun x=>jx x.m 20001).sum<=most)/\X=Z,fun k=>d.length-k,0,(cvE rfl rfl),⟨⟨UZ _,UZ _⟩,rfl⟩,?_⟩
  rintro k _ ⟨⟨hk,a3⟩,rfl⟩;dsimp only;refine biE (fun hc=>?_) fun hc=>?_
  ·have hc:(k:Int)<(d.length:Int):=dT hc;have i:k<d.length:=by omega
   obtain⟨b,o,hq,ab⟩:=ay (lim:=20001) i oM nM (by decide) (by decide);have ah:((d.take (k+1)).map fun x=>jx x.m 20001).sum=((d.take k).map fun x=>jx x.m 20001).sum+jx d[k].m 20001:=by
    rw[tsg i,QM,List.sum_append];show _+(jx d[k].m 20001+0)=_;rw[UK]
   have h1:jx d[k].m 20001<=20001:=ztF _ (by decide);subst hq;refine⟨k,rfl,i,cmo ab ?_⟩;rintro e _ ⟨rfl,rfl⟩;refine⟨((((d.take (k+1)).map fun x=>jx x.m 20001).sum:Nat):Int),?_,?_⟩
   ·rw[ah,Int.natCast_add];exact ze (by omega)
   refine biE (fun ad=>?_) fun ad=>?_
   ·have ad:(most:Int)<((((d.take (k+1)).map fun x=>jx x.m 20001).sum:Nat):Int):=dT ad;refine⟨.inr ⟨fun V' h=>?_,rfl⟩,n⟩;have h2:=au V' h;subst h2;have h3:=h.2.2;rw[am] at h3;have:=aw (k+1);omega
   have ad:¬(most:Int)<((((d.take (k+1)).map fun x=>jx x.m 20001).sum:Nat):Int):=dF ad;exact nxI (by omega) ⟨k+1,(cvE rfl rfl),⟨⟨i,by omega⟩,rfl⟩,zdc (by omega)⟩
  ·have hc:¬(k:Int)<(d.length:Int):=dF hc;obtain rfl:k=d.length:=by omega
   rw[Qt,<- av] at a3 ⊢;exact⟨(),(cvE rfl rfl),a3,rfl⟩
 rintro _ _ ⟨bd,rfl⟩;have a7:zas p V most:=⟨af,t,by rw[am,<- av];exact bd⟩;have a2:((qu p V).map fun m=>jx m 20001).sum<=20000:=UL a7.2.2 hm20;have ar:=n.size;refine⟨OA×Nat,fun s=>⟨[(8,.slice q d.length c),(12,.slice s.1 0 s.2)],[]⟩,fun s Z=>OwnS exE 78 X.heap.size Z s.1 s.2 []/\Bw X Z,?_,?_⟩
 ·exact zd5 (E:=exE) Tryz.underlying32 k78 rfl (by show _=333;exact zbP) rfl an (by show 2416*an<=_;omega) (by unfold maxLen;omega) fun Z oZ f sZ=>⟨(some ⟨X.heap.size,0,none⟩,an),(cvE rfl rfl),oZ,f⟩
 rintro⟨p0,c0⟩ Y ⟨oY,ak⟩;dsimp only at oY ⊢;refine⟨List zlp×OA×Nat,fun s=>⟨[(12,.slice s.2.1 s.1.length s.2.2)],[]⟩,fun s Z=>s.1.map (·.1)=q8 p V/\OwnS exE 78 X.heap.size Z s.2.1 s.2.2 s.1/\(∀x∈s.1,OwnS evE 80 X.heap.size Z x.2.1 x.2.2 x.1.ev)/\Bw X Z,?_,?_⟩
 ·refine⟨Nat×List zlp×OA×Nat,fun s=>⟨[(8,.slice q d.length c),(12,.slice s.2.2.1 s.2.1.length s.2.2.2),(57,i64 d.length),(58,i64 (s.1:Nat))],[]⟩,
   fun s Z=>s.1<=d.length/\s.2.1.map (·.1)=(d.take s.1).flatMap (fun x=>ja x.m)/\OwnS exE 78 X.heap.size Z s.2.2.1 s.2.2.2 s.2.1/\(∀x∈s.2.1,OwnS evE 80 X.heap.size Z x.2.1 x.2.2 x.1.ev)/\Bw X Z,fun s=>d.length-s.1,(0,[],p0,c0),
   (cvE rfl rfl),⟨UZ _,rfl,oY,fun x j=>(by cases j),ak⟩,?_⟩
  clear oY ak;rintro⟨k,u,po,co⟩ Z ⟨hk,ac,oZ,nZ,f⟩;dsimp only at hk ac oZ nZ ⊢;have a0:=f.size;have ba:OwnS zjA 92 w.heap.size Z q c d:=oM.same fun a ha=>f.block _ (zz oM ha).2.1;have a4:∀x∈d,NInM w.heap.size (fun k=>w.heap.size<=k) Z x:=fun x j=>(nM x j).same fun{α E T c q l} _ _ _ hr=>⟨hr.own.same fun a ha=>f.block _ (zz hr.own ha).2.1,hr.inF⟩;refine biE (fun hc=>?_) fun hc=>?_
  ·have hc:(k:Int)<(d.length:Int):=dT hc;have i:k<d.length:=by omega
   obtain⟨b,o,hq,ab⟩:=ay (lim:=1) i ba a4 (by decide) (by decide);obtain⟨x,j⟩:∃x,d[k]=x:=⟨_,rfl⟩;have ax:x∈d:=by rw[<- j];exact gM i
   have ah:(d.take (k+1)).flatMap (fun x=>ja x.m)=(d.take k).flatMap (fun x=>ja x.m)++ja x.m:=by
    rw[tsg i,Kh,j,KR,Qm,QG]
   rw[j] at ab;have ao:zI Z ⟨b,o+k*336,none⟩ (zqY x):=by
    obtain⟨b',o',ap,_,ao⟩:=ba.row.at i;rw[hq] at ap;have:=ao k i;simp only[KY,Ur,Gh] at ap;rw[<- j,ap.1,ap.2];exact this
   have a1:b<X.heap.size:=(zz oM hq).2.1;subst hq;refine⟨k,rfl,i,cmo ab ?_⟩;rintro e _ ⟨rfl,rfl⟩;refine biE (fun h=>?_) fun h=>?_
   ·have h:jx x.m 1=0:=Uw (dT h);have bi:ja x.m=[]:=Gn h;rw[bi,QG] at ah;exact nxI (by omega) ⟨(k+1,u,po,co),(cvE rfl rfl),⟨i,by rw[ac,ah],oZ,nZ,f⟩,zdc (by omega)⟩
   have h:jx x.m 1≠0:=fun e=>(dF h) (by rw[e];rfl);have bg:ja x.m=zem x.m:=Gm h;rw[bg] at ah;refine⟨k,rfl,i,cmo zvU ?_⟩;rintro e U ⟨rfl,fU,sU,aa⟩;have z:=a4 x ax;have a8:=hQ.mb t a2 x.m (by rw[<- ag];exact UI.2 ⟨x,ax,rfl⟩) h;obtain⟨Rd,ai⟩:∃Rd:Nat->Prop,Rd=fun k=>k<X.heap.size\/k=Z.heap.size:=⟨_,rfl⟩;have aj:∀{α:Type} {E:Enc α} {T cc:Nat} {r:OA} {ll:List α},RowIn E T w.heap.size (fun k=>w.heap.size<=k) X r cc ll->∀a,r=some a->Rd a.block:=fun{α E T cc r ll} h a ha=>by rw[ai];exact .inl (zz h.own ha).2.1
   have hX:=nM x ax;have hM:MixM Rd U b (o+k*336) x.m x.q x.c x.p1 x.p2 x.p3 x.c1 x.c2 x.c3 x.xs x.ys:=by
    have r:∀{α:Type} {E:Enc α} {T cc:Nat} {r:OA} {ll:List α},RowIn E T w.heap.size (fun k=>w.heap.size<=k) Z r cc ll->SlR E U r ll:=fun{α E T cc r ll} h=>(h.own.below aa).row;refine⟨zw aa ao,r z.ev,fun e=>?_,r z.r1,z.e2,r z.r2,fun y hy=>r (z.n2 y hy),z.e3,r z.r3,fun y hy=>r (z.n3 y hy),by rw[ai];exact .inl a1,aj hX.ev,aj hX.r1,aj hX.r2,aj hX.r3,fun y hy=>aj (hX.n2 y hy),fun y hy=>aj (hX.n3 y hy)⟩;rcases z.ev.own.inv with⟨_,h,_⟩ | ⟨g,bk,h,_⟩
    ·exact h
    ·rw[e] at h;cases h
   have a9:∀k,Rd k->k<U.heap.size:=fun k hk=>by
    rw[ai] at hk;omega
   have bf:Tz64M U:=hG.t64.below (n.trans ((f.trans (aa.mono a0)).mono ar));have bl:=zbn hG.t64;have hI:=zvV hM fU (by rw[ai];exact .inr rfl) a9 bf (by rw[ai];left;omega) a8 a8.ev;have bh:u.length+(zem x.m).length<=30000:=by
    have h2:=hQ.len t a2;have h3:(q8 p V)=d.flatMap (fun x=>ja x.m):=by
     show(qu p V).flatMap ja=_;rw[<- ag,Ql]
    rw[h3] at h2;have h4:d.flatMap (fun x=>ja x.m)=(d.take (k+1)).flatMap (fun x=>ja x.m)++(d.drop (k+1)).flatMap (fun x=>ja x.m):=(by rw[<- Kh,JO]);rw[h4,ah,<- ac,lap,lap,QJ] at h2;omega
   refine cmo (znB (oZ.below aa) (fun y hy=>(nZ y hy).below aa) (by omega) hI (UW _) (fun k hk=>⟨a9 k hk,rfl⟩) (fun k hk=>by rw[ai] at hk;exact hk) fU (by omega) bh) ?_;rintro e T ⟨⟨new,pn,cn,rfl,zt,oT,nT⟩,bj⟩;exact nxI (by omega) ⟨(k+1,u++new,pn,cn),(cvE rfl rfl),⟨i,by rw[QM,ac,zt,ah],oT,nT,(f.trans (aa.mono a0)).trans bj⟩,zdc (by omega)⟩
  ·have hc:¬(k:Int)<(d.length:Int):=dF hc;obtain rfl:k=d.length:=by omega
   rw[Qt] at ac;refine⟨(u,po,co),(cvE rfl rfl),?_,oZ,nZ,f⟩;rw[ac];show d.flatMap _=(qu p V).flatMap ja;rw[<- ag,Ql]
 rintro⟨u,po,co⟩ Z ⟨ac,oZ,nZ,f⟩;exact⟨.inl ⟨V,a7,u,po,co,rfl,ac,oZ.lower ar,fun x j=>(nZ x j).lower ar⟩,n.trans (f.mono ar)⟩
end
def Rds (ev:Nat->Ev) (n s:Nat):Prop:=∀b,s.testBit b=true->b<n/\(ev b).k=1
theorem zih(ev:Nat->Ev)(n:Nat):Rds ev n 0:=fun b h=>by simp at h
theorem Rds.or{ev:Nat->Ev}{n s t:Nat}(h:Rds ev n s)(k:Rds ev n t):Rds ev n (s|||t):=fun b a=>by
 rw[Uo,QD] at a;exact a.elim (h b) (k b)
theorem Rds.mono{ev:Nat->Ev}{n m s:Nat}(h:Rds ev n s)(hm:n<=m):Rds ev m s:=fun b a=>⟨nL (h b a).1 hm,(h b a).2⟩
theorem zhE{ev:Nat->Ev}{n b:Nat}(hb:b<n)(hk:(ev b).k=1):Rds ev n (2^b):=fun c a=>by
 rw[Kq] at a;have e:b=c:=dT a;rw[<- e];exact⟨hb,hk⟩
theorem Rds.upd{ev:Nat->Ev}{n m s:Nat}{e:Ev}(h:Rds ev n s)(hm:n<=m):Rds (upd ev m e) n s:=fun b a=>by
 obtain⟨c,d⟩:=h b a;rw[qx _ _ (by omega)];exact⟨c,d⟩
def zwb (k i:Nat) (e:Ev):Prop:=e.th=0/\e.p=UInt8.ofNat i/\(((e.k=1\/e.k=2)/\e.l.toNat<k)\/(e.k=3/\e.l=0/\e.v=0))
structure RunW (k:Nat) (R:RunD):Prop where
 ev:∀i,i<R.many->zwb k i (R.ev i)
 deps:∀j,Rds R.ev R.many (R.deps j)
 ctl:Rds R.ev R.many R.ctl
 data:∀i,i<R.many->Rds R.ev i (R.data i)/\(R.data i≠0->(R.ev i).k=2)
 ctrl:∀i,i<R.many->Rds R.ev i (R.ctrl i)
 att:∀i,i<R.many->R.att i=0\/∃b,i=b+1/\R.att i=2^b/\(R.ev b).k=1/\(R.ev i).k=2/\(R.ev b).l=(R.ev i).l
 fresh:∀i,R.many<=i->R.att i=0
theorem zwF(k:Nat):RunW k zjx where
 ev:=fun i h=>Gp h (QX i)
 deps:=fun j=>zih _ _
 ctl:=zih _ _
 data:=fun i h=>Gp h (QX i)
 ctrl:=fun i h=>Gp h (QX i)
 att:=fun i h=>Gp h (QX i)
 fresh:=fun i _=>rfl
section
variable{k:Nat}{R:RunD}{x:InsD}{v:UInt8}
theorem RunW.val(h:RunW k R)(r:Bool)(n:UInt8):Rds R.ev R.many (qE r n R).2:=by
 unfold qE
 split
 ·exact h.deps _
 ·exact zih _ _
theorem RunW.emit(h:RunW k R){kd l v m:UInt8}{d:Nat}(he:((kd=1\/kd=2)/\l.toNat<k)\/(kd=3/\l=0/\v=0))(hd:Rds R.ev R.many d)(hk:d≠0->kd=2):RunW k (jF R kd l v m d):=by
 have c:∀{i:Nat},i<R.many->upd R.ev R.many ⟨0,kd,l,v,m,UInt8.ofNat R.pc,UInt8.ofNat R.many⟩ i=R.ev i:=fun{i} a=>qx _ _ (by omega);have new:upd R.ev R.many ⟨0,kd,l,v,m,UInt8.ofNat R.pc,UInt8.ofNat R.many⟩ R.many=⟨0,kd,l,v,m,UInt8.ofNat R.pc,UInt8.ofNat R.many⟩:=zN _ _ _;have f:∀{i:Nat},i<R.many+1->i=R.many\/i<R.many:=fun{i} a=>by omega
 refine⟨fun i a=>?_,fun j=>(((h.deps j).upd (UW _)).mono (Nat.le_succ _)),(h.ctl.upd (UW _)).mono (Nat.le_succ _),fun i a=>?_,fun i a=>?_,fun i a=>?_,fun i a=>h.fresh i (by have:R.many+1<=i:=a;omega)⟩
 ·show zwb k i (upd R.ev R.many _ i);rcases f a with e | a
  ·rw[e,new];exact⟨rfl,rfl,he⟩
  ·rw[c a];exact h.ev i a
 ·show Rds (upd R.ev R.many _) i (upd R.data R.many d i)/\(upd R.data R.many d i≠0->(upd R.ev R.many _ i).k=2);rcases f a with e | a
  ·rw[e,zN,new];exact⟨hd.upd (UW _),hk⟩
  ·rw[qx _ _ (by omega),c a];exact⟨(h.data i a).1.upd (Nat.le_of_lt a),(h.data i a).2⟩
 ·show Rds (upd R.ev R.many _) i (upd R.ctrl R.many R.ctl i);rcases f a with e | a
  ·rw[e,zN];exact h.ctl.upd (UW _)
  ·rw[qx _ _ (by omega)];exact(h.ctrl i a).upd (Nat.le_of_lt a)
 ·show R.att i=0\/∃b,i=b+1/\R.att i=2^b/\(upd R.ev R.many _ b).k=1/\(upd R.ev R.many _ i).k=2/\(upd R.ev R.many _ b).l=(upd R.ev R.many _ i).l;rcases f a with e | a
  ·exact .inl (h.fresh i (by omega))
  ·rcases h.att i a with n | ⟨b,r,p,o,q,g⟩
   ·exact .inl n
   ·refine .inr ⟨b,r,p,?_⟩;rw[c a,c (by omega)];exact⟨o,q,g⟩
theorem RunW.set(h:RunW k R){d v:UInt8}{s:Nat}(hs:Rds R.ev R.many s):RunW k (zkR R d v s):=by
 refine⟨h.ev,fun j=>?_,h.ctl,h.data,h.ctrl,h.att,h.fresh⟩;show Rds R.ev R.many (upd R.deps d.toNat s j);by_cases e:j=d.toNat
 ·rw[e,zN];exact hs
 ·rw[qx _ _ e];exact h.deps j
structure ExchW (k:Nat) (R S:RunD) (x:InsD):Prop where
 w:RunW k S
 m:S.many=R.many+2
 k1:(S.ev R.many).k=1
 k2:(S.ev (R.many+1)).k=2
 a:S.att (R.many+1)=2^R.many
theorem RunW.exch(h:RunW k R)(hl:x.loc.toNat<k){o v:UInt8}{d:Nat}(hd:Rds R.ev R.many d):ExchW k R (zbt R x o v d) x:=by
 have s:=h.emit (kd:=1) (l:=x.loc) (v:=o) (m:=3) (d:=0) (.inl ⟨.inl rfl,hl⟩) (zih _ _) (fun e=>Gp rfl e);have n:Rds (jF R 1 x.loc o 3 0).ev (R.many+1) d:=(hd.upd (UW _)).mono (Nat.le_succ _);have a:=s.emit (kd:=2) (l:=x.loc) (v:=v) (m:=3) (d:=d) (.inl ⟨.inr rfl,hl⟩) n (fun _=>rfl);obtain⟨S,c⟩:=nm (jF (jF R 1 x.loc o 3 0) 2 x.loc v 3 d);rw[<- c] at a;have p:S.many=R.many+2:=by rw[c];rfl
 have g:S.ev R.many=⟨0,1,x.loc,o,3,UInt8.ofNat R.pc,UInt8.ofNat R.many⟩:=by
  rw[c];show upd (upd R.ev R.many _) (R.many+1) _ R.many=_;rw[qx _ _ (by omega),zN]
 have j:S.ev (R.many+1)=⟨0,2,x.loc,v,3,UInt8.ofNat R.pc,UInt8.ofNat (R.many+1)⟩:=by
  rw[c];show upd (upd R.ev R.many _) (R.many+1) _ (R.many+1)=_;rw[zN];rfl
 have t:RunW k { S with att:=upd S.att (R.many+1) (2^R.many) }:=by
  refine⟨a.ev,a.deps,a.ctl,a.data,a.ctrl,fun i f=>?_,fun i f=>?_⟩
  ·show upd S.att (R.many+1) (2^R.many) i=0\/∃b,i=b+1/\upd S.att (R.many+1) (2^R.many) i=2^b/\(S.ev b).k=1/\(S.ev i).k=2/\(S.ev b).l=(S.ev i).l;by_cases e:i=R.many+1
   ·rw[e,zN];exact .inr ⟨R.many,rfl,rfl,by rw[g],by rw[j],by rw[g,j]⟩
   ·rw[qx _ _ e];exact a.att i f
  ·show upd S.att (R.many+1) (2^R.many) i=0;have f:S.many<=i:=f;rw[qx _ _ (by omega)];exact a.fresh i f
 have q:=RunW.set (d:=x.dst) (v:=o) t (zhE (b:=R.many) (by show R.many<S.many;omega) (by show(S.ev R.many).k=1;rw[g]));have r:zbt R x o v d=zkR { S with att:=upd S.att (R.many+1) (2^R.many) } x.dst o (2^R.many):=by rw[c];rfl
 rw[r];exact⟨q,p,by show(S.ev R.many).k=1;rw[g],by show(S.ev (R.many+1)).k=2;rw[j],zN _ _ _⟩
theorem ExchW.rd{S:RunD}(h:ExchW k R S x):Rds S.ev (R.many+1) (2^R.many):=zhE (Qx _) h.k1
theorem RunW.fetch(h:RunW k R)(hl:x.loc.toNat<k):RunW k (zgL R x v):=by
 have c:=RunW.exch (o:=v) (v:=v+(qE x.ar x.an R).1) (d:=(qE x.ar x.an R).2) h hl (h.val x.ar x.an);obtain⟨S,f⟩:=nm (zbt R x v (v+(qE x.ar x.an R).1) (qE x.ar x.an R).2);rw[<- f] at c;have e:zgL R x v={ S with data:=upd S.data (R.many+1) (S.data (R.many+1)|||S.att (R.many+1)) }:=by rw[f];rfl
 rw[e];have b:=c.w;have j:=c.m;refine⟨b.ev,b.deps,b.ctl,fun i g=>?_,b.ctrl,b.att,b.fresh⟩;show Rds S.ev i (upd S.data (R.many+1) _ i)/\(upd S.data (R.many+1) _ i≠0->(S.ev i).k=2);by_cases e:i=R.many+1
 ·rw[e,zN,c.a];exact⟨(b.data _ (by omega)).1.or c.rd,fun _=>c.k2⟩
 ·rw[qx _ _ e];exact b.data i g
theorem RunW.cas(h:RunW k R)(hl:x.loc.toNat<k):RunW k (zel R x v):=by
 by_cases j:v=(qE x.ar x.an R).1
 ·have f:=RunW.exch (o:=v) (v:=(qE x.br x.bn R).1) (d:=(qE x.br x.bn R).2) h hl (h.val x.br x.bn);obtain⟨S,g⟩:=nm (zbt R x v (qE x.br x.bn R).1 (qE x.br x.bn R).2);rw[<- g] at f;have c:=f.w;have y:=f.m;have u:Rds S.ev (R.many+1) (qE x.ar x.an R).2:=by
   have s:Rds R.ev R.many (qE x.ar x.an R).2:=h.val _ _;have r:∀b,b<R.many->S.ev b=R.ev b:=fun b n=>by
    rw[g];show upd (upd R.ev R.many _) (R.many+1) _ b=_;rw[qx _ _ (by omega),qx _ _ (by omega)]
   intro b n;obtain⟨q,t⟩:=s b n;rw[r b q];exact⟨by omega,t⟩
  have e:zel R x v={ S with ctrl:=upd S.ctrl (R.many+1) (S.ctrl (R.many+1)|||(S.att (R.many+1)|||(qE x.ar x.an R).2)) }:=by
   unfold zel;rw[Gn j,g]
  rw[e];clear e;refine⟨c.ev,c.deps,c.ctl,c.data,fun i p=>?_,c.att,c.fresh⟩;show Rds S.ev i (upd S.ctrl (R.many+1) _ i);by_cases e:i=R.many+1
  ·rw[e,zN,f.a];exact(c.ctrl _ (by omega)).or (f.rd.or u)
  ·rw[qx _ _ e];exact c.ctrl i p
 ·have e:zel R x v=zkR (jF R 1 x.loc v 3 0) x.dst v (2^R.many):=by unfold zel;rw[Gm j]
  rw[e];have f:=h.emit (kd:=1) (l:=x.loc) (v:=v) (m:=3) (d:=0) (.inl ⟨.inl rfl,hl⟩) (zih _ _) (fun e=>Gp rfl e);refine RunW.set f (zhE (b:=R.many) (Qx _) ?_);show(upd R.ev R.many _ R.many).k=1;rw[zN]
theorem RunW.pc(h:RunW k R)(n:Nat):RunW k { R with pc:=n }:=⟨h.ev,h.deps,h.ctl,h.data,h.ctrl,h.att,h.fresh⟩
theorem RunW.eff(h:RunW k R)(hx:ExG x)(hl:x.op=1\/x.op=2\/x.op=4\/x.op=5\/x.op=6->x.loc.toNat<k):RunW k (zdO R x v):=by
 rcases hx with⟨e,-⟩ | ⟨e,-⟩ | ⟨e,-⟩ | ⟨e,-⟩ | ⟨e,-⟩ | ⟨e,-⟩ | e | ⟨e,-⟩
 ·rw[ql.1 e];have a:=h.emit (kd:=1) (l:=x.loc) (v:=v) (m:=x.mode) (d:=0) (.inl ⟨.inl rfl,hl (.inl e)⟩) (zih _ _) (fun e=>Gp rfl e);refine RunW.set a (zhE (b:=R.many) (Qx _) ?_);show(upd R.ev R.many _ R.many).k=1;rw[zN]
 ·rw[ql.2.1 e];exact h.emit (.inl ⟨.inr rfl,hl (.inr (.inl e))⟩) (h.val _ _) (fun _=>rfl)
 ·rw[ql.2.2.1 e];exact h.set ((h.val _ _).or (h.val _ _))
 ·rw[ql.2.2.2.1 e];exact(h.exch (hl (.inr (.inr (.inl e)))) (h.val _ _)).w
 ·rw[ql.2.2.2.2.1 e];exact h.fetch (hl (.inr (.inr (.inr (.inl e)))))
 ·rw[ql.2.2.2.2.2.1 e];exact h.cas (hl (.inr (.inr (.inr (.inr e)))))
 ·rw[ql.2.2.2.2.2.2.1 e];exact h.emit (.inr ⟨rfl,rfl,rfl⟩) (zih _ _) (fun e=>Gp rfl e)
 ·rw[ql.2.2.2.2.2.2.2 e];have a:RunW k { R with ctl:=R.ctl|||((qE x.ar x.an R).2|||(qE x.br x.bn R).2) }:=⟨h.ev,h.deps,h.ctl.or ((h.val _ _).or (h.val _ _)),h.data,h.ctrl,h.att,h.fresh⟩;unfold zb0;dsimp only
  split
  ·exact a.pc _
  ·exact a
theorem RunW.exec(h:RunW k R)(hx:ExG x)(hl:x.op=1\/x.op=2\/x.op=4\/x.op=5\/x.op=6->x.loc.toNat<k):RunW k (zY R x v):=RunW.pc (h.eff hx hl) _
end
def ThW (k:Nat) (l:List InsD):Prop:=∀x∈l,ExG x/\(x.op=1\/x.op=2\/x.op=4\/x.op=5\/x.op=6->x.loc.toNat<k)
theorem zwD{l:List InsD}{k:Nat}(h:qI l k=true):ThW k l:=fun x b=>by
 unfold qI at h;rw[bAT,dE,Qg] at h;obtain⟨i,a,rfl⟩:=Kj b;have:=h.2 i (Ul.2 a);rw[gE a] at this;exact⟨(zlk this).1,(zlk this).2.2⟩
theorem RunW.go{k:Nat}{l:List InsD}(ht:ThW k l):∀(n:Nat) (S:RunD),RunW k S->RunW k (goR l n S)
 | 0,S,h=>h
 | n+1,S,h=>by
  show RunW k (match l[S.pc]? with | none=>S | some x=>if zae x then S else goR l n (zY S x 0))
  cases hg:l[S.pc]? with
  | none=>exact h
  | some x =>
   dsimp only
   split
   ·exact h
   ·obtain⟨a,b⟩:=ht x (JW hg);exact RunW.go ht n _ (h.exec a b)
theorem RunW.spread{k:Nat}{l:List InsD}(ht:ThW k l)(dom:List UInt8):∀(n:Nat) (S:RunD),RunW k S->∀R∈zT l dom n S,RunW k R
 | 0,S,h,R,c=>by
  have c:R∈[goR l l.length S]:=c;rw[KB] at c;rw[c];exact RunW.go ht _ _ h
 | n+1,S,h,R,c=>by
  have d:=RunW.go ht l.length S h;have c:R∈(match l[(goR l l.length S).pc]? with | none=>[goR l l.length S] | some x=>dom.flatMap fun v=>zT l dom n (zY (goR l l.length S) x v)):=c
  cases hg:l[(goR l l.length S).pc]? with
  | none =>
   rw[hg] at c;have c:=KB.1 c;rw[c];exact d
  | some x =>
   rw[hg] at c;obtain⟨v,-,e⟩:=List.mem_flatMap.1 c;obtain⟨a,b⟩:=ht x (JW hg);exact RunW.spread ht dom n _ (d.exec a b) R e
theorem zts{l:List InsD}{k:Nat}(h:qI l k=true)(dom:List UInt8):∀R∈qB l dom,RunW k R/\R.many<=24:=fun R a =>
 ⟨RunW.spread (zwD h) dom _ _ (zwF k) R a,(zhN (zkO h) dom R a).1⟩
structure PathW (k:Nat) (P:PathD):Prop where
 n:P.ev.length<=24
 ev:∀i e,P.ev[i]?=some e->zwb k i e
 dt:∀p∈P.data,∃a b,P.ev[p.1]?=some a/\P.ev[p.2]?=some b/\p.1<p.2/\a.k=1/\b.k=2
 ct:∀p∈P.ctrl,∃a b,P.ev[p.1]?=some a/\P.ev[p.2]?=some b/\p.1<p.2/\a.k=1
 rm:∀p∈P.rmw,∃a b,P.ev[p.1]?=some a/\P.ev[p.2]?=some b/\p.2=p.1+1/\a.k=1/\b.k=2/\a.l=b.l
 dtl:P.data.length<=100000
 ctl:P.ctrl.length<=100000
 rml:P.rmw.length<=100000
theorem ze4{f:Nat->Nat}{n:Nat}{p:Nat×Nat}(h:p∈zdz f n):p.2<n/\(f p.2).testBit p.1=true:=by
 unfold zdz at h;obtain⟨i,b,h⟩:=List.mem_flatMap.1 h;obtain⟨a,c,rfl⟩:=UI.1 h;exact⟨Ul.1 b,(jf.1 c).2⟩
theorem zgz(f:Nat->Nat){n:Nat}(h:n<=24):(zdz f n).length<=100000:=by
 rw[<- zex];have:=zgy ((List.range n).map f) 0;rw[QJ,KU] at this;omega
theorem zdF{R:RunD}{i:Nat}(h:i<R.many):(jN R).ev[i]?=some (R.ev i):=by
 show((List.range R.many).map R.ev)[i]?=_;rw[KT,Ki h];rfl
theorem zwR{k:Nat}{R:RunD}(h:RunW k R)(hm:R.many<=24):PathW k (jN R):=by
 have n:(jN R).ev.length=R.many:=by show((List.range R.many).map R.ev).length=_;rw[QJ,KU]
 refine⟨by omega,fun i e f=>?_,fun p d=>?_,fun p d=>?_,fun p d=>?_,zgz _ hm,zgz _ hm,zgz _ hm⟩
 ·have l:i<R.many:=by rw[<- n];exact(Jr.1 f).1
  rw[zdF l] at f;rw[<- Uc f];exact h.ev i l
 ·obtain⟨c,a⟩:=ze4 d;obtain⟨r,m⟩:=h.data _ c;obtain⟨g,j⟩:=r _ a;exact⟨_,_,zdF (by omega),zdF c,g,j,m (fun e=>by rw[e] at a;simp at a)⟩
 ·obtain⟨c,a⟩:=ze4 d;obtain⟨g,j⟩:=h.ctrl _ c _ a;exact⟨_,_,zdF (by omega),zdF c,g,j⟩
 ·obtain⟨c,a⟩:=ze4 d;rcases h.att _ c with e | ⟨b,t,o,u,q,s⟩
  ·rw[e] at a;simp at a
  ·rw[o,Kq] at a;have e:b=p.1:=dT a;subst e;exact⟨_,_,zdF (by omega),zdF c,t,u,q,s⟩
theorem PathW.b{k:Nat}{P:PathD}(h:PathW k P):PathB k P:=by
 have lt:∀{i:Nat} {e:Ev},P.ev[i]?=some e->i<P.ev.length:=fun{i e} j=>(Jr.1 j).1;refine⟨h.n,fun e j g=>?_,fun p d=>?_,fun p d=>?_,fun p d=>?_,h.dtl,h.ctl,h.rml⟩
 ·obtain⟨i,l,rfl⟩:=Kj j;rcases(h.ev i _ (gE l)).2.2 with c | ⟨c,_⟩
  ·exact c.2
  ·rw[c] at g;rcases g with g | g <;> exact Gp g (by decide)
 ·obtain⟨a,b,c,f,_⟩:=h.dt p d;exact⟨lt c,lt f⟩
 ·obtain⟨a,b,c,f,_⟩:=h.ct p d;exact⟨lt c,lt f⟩
 ·obtain⟨a,b,c,f,_⟩:=h.rm p d;exact⟨lt c,lt f⟩
end Go.Proofs.YtakcdebpklffiaaGreatDoor
namespace Go.Sei
def zeP (f:Nat->Bool) (n:Nat):Nat:=((List.range n).filter f).length
theorem zop(e:Ev)(es:List Ev):qz (e::es)=if e.th = -1 then qz es+1 else 0:=by
 unfold qz;rw[Ko];by_cases h:e.th = -1
 ·rw[Gn (Up h),Gn h,Qp]
 ·rw[Gm (by simp[h]),Gm h];rfl
section
variable{L:List Ev}{locs:Nat}
theorem zdh(f:Nat->Bool)(n:Nat):zeP f (n+1)=zeP f n+if f n=true then 1 else 0:=by
 unfold zeP;rw[QS,Kw,lap,Qk,List.filter_nil]
 split <;> rfl
theorem ztD{f:Nat->Bool}{n:Nat}(h:∀k,k<n->f k=false):zeP f n=0:=by
 unfold zeP;rw[List.length_eq_zero_iff,JB];intro k a;rw[h k (Ul.1 a)];decide
end
theorem zkf(ev:List Ev)(a k:Nat):(ev.drop a).getD k ev0=ev.getD (a+k) ev0:=by
 rw[gDe,gDe,Kx]
end Go.Sei
namespace Go.Proofs.YtakcdebpklffiaaGreatDoor
open Go.Vc Go.RowKit Go.Sei
section
variable{n:Nat}{r:RelD}{x:ExD}
theorem zvE{j:Nat}(h:j<64):ctz (2^j)=j:=by
 have a:(2:Nat)^j<2^64:=Kf (by decide) h;have:=(jf.1 (zhO (Nat.ne_of_gt (Nat.pow_pos (by decide))) a)).2;rw[zaf] at this;exact dT this
theorem zjj{s:Nat}(h:s≠0):∃j,s.testBit j=true:=by
 refine Jo fun a=>h (Kc fun j=>?_);rw[QA]
 cases hb:s.testBit j with
 | false=>rfl
 | true=>exact (a ⟨j,hb⟩).elim
theorem zn1(hrf:RelOk x.ev.length x.rf):za2 x=true↔(∀a b,a<x.ev.length->b<x.ev.length->zh x.rf a b=true->isW x a=true/\isR x b=true/\(evA x a).l=(evA x b).l/\(evA x a).v=(evA x b).v) /\
  ∀b,b<x.ev.length->isR x b=true->(∃j,j<x.ev.length/\zh x.rf j b=true)/\∀i j,i<x.ev.length->j<x.ev.length->zh x.rf i b=true->zh x.rf j b=true->i=j:=by
 have aa:=hrf.le;have bk:∀i,i<x.ev.length->∀j,((z6 x.rf).to i).testBit j=(decide (j<x.ev.length)&&zh x.rf j i):=fun i y j=>zaM hrf (by omega);have w64:∀i,i<x.ev.length->(z6 x.rf).to i<2^64:=fun i y=>hrf.back.w i (by omega);unfold za2;rw[Qg];constructor
 ·intro h;have p:∀b,b<x.ev.length->∀a,zh x.rf a b=true->a<x.ev.length->(evA x b).k=1/\a=ctz ((z6 x.rf).to b)/\(evA x a).k=2/\(evA x a).l=(evA x b).l/\(evA x a).v=(evA x b).v:=fun b d a q ha=>by
   have c:=h b (Ul.2 d);have f:((z6 x.rf).to b).testBit a=true:=by rw[bk b d,q,Up ha];rfl
   have o:¬(z6 x.rf).to b=0:=fun e=>by rw[e,QA] at f;cases f
   unfold zcC at c;by_cases m:(evA x b).k=1
   ·rw[Gn m,Gm o] at c;by_cases u:(z6 x.rf).to b=2^ctz ((z6 x.rf).to b)
    ·rw[Gn u] at c;have hz:a=ctz ((z6 x.rf).to b):=by
      rw[u,zaf] at f;exact dT f
     rw[<- hz] at c;simp only[bAT,dE] at c;exact⟨m,hz,c⟩
    ·rw[Gm u] at c;cases c
   ·rw[Gm m] at c;exact(o (dT c)).elim
  refine⟨fun a b ha d q=>?_,fun b d hr=>⟨?_,fun i j y g c h2=>?_⟩⟩
  ·obtain⟨c,_,h3,h4⟩:=p b d a q ha;exact⟨Up h3,Up c,h4⟩
  ·have c:=h b (Ul.2 d);unfold zcC at c;rw[Gn (dT hr:(evA x b).k=1)] at c;by_cases o:(z6 x.rf).to b=0
   ·rw[Gn o] at c;cases c
   ·obtain⟨j,g⟩:=zjj o;rw[bk b d,bAT,dE] at g;exact⟨j,g⟩
  ·exact(p b d i c y).2.1.trans (p b d j h2 g).2.1.symm
 ·rintro⟨c,h2⟩ b d;have d:=Ul.1 d;unfold zcC;by_cases m:(evA x b).k=1
  ·rw[Gn m];obtain⟨⟨j,g,s⟩,hu⟩:=h2 b d (Up m);have u:(z6 x.rf).to b=2^j:=Kc fun i=>by
    rw[bk b d,zaf];by_cases t:i=j
    ·rw[t,s,Up g,Up rfl];rfl
    ·rw[Ue t]
     cases y:zh x.rf i b with
     | false=>rw [Uf]
     | true =>
      by_cases z:i<x.ev.length
      ·exact(t (hu i j z g y s)).elim
      ·rw[Ue z];rfl
   have hz:ctz ((z6 x.rf).to b)=j:=by rw[u];exact zvE (by omega)
   have o:¬(z6 x.rf).to b=0:=by rw[u];exact Nat.ne_of_gt (Nat.pow_pos (by decide))
   rw[Gm o,hz,Gn u];obtain⟨a1,_,a3,a4⟩:=c j b g d s;rw[Up (dT a1:(evA x j).k=2),Up a3,Up a4];rfl
  ·rw[Gm m];refine Up (Kc fun j=>?_);rw[bk b d,QA];by_cases g:j<x.ev.length
   ·cases hjb:zh x.rf j b with
    | false=>rw [Uf]
    | true=>exact (m (dT (c j b g d hjb).2.1)).elim
   ·rw[Ue g];rfl
end
section
variable{x:ExD}
theorem zeA{a b:Nat}(ha:a<2^64)(hb:b<2^64):jU a b=0↔∀j,a.testBit j=true->b.testBit j=true:=by
 rw[zbq];constructor
 ·intro h j d;have c:j<64:=by
   refine Qw fun e=>?_;rw[JF (nL ha (Ke (by decide) e))] at d
   cases d
  have:=zbi (a:=a) hb c;rw[h,QA,d,Uv] at this
  cases hc:b.testBit j with
  | true=>rfl
  | false=>rw [hc] at this;cases this
 ·intro h;refine Kc fun j=>?_;rw[QA];by_cases d:j<64
  ·rw[zbi (a:=a) hb d]
   cases hc:a.testBit j with
   | false=>rfl
   | true=>rw [h j hc];rfl
  ·exact JF (nL (KF (show je a b<=a from QU) ha) (Ke (by decide) (by omega)))
theorem zrN(x:ExD):∀k j,((List.range k).foldl (fun s i=>if(evA x i).k=2 then s|||2^i else s) 0).testBit j=(decide (j<k)&&isW x j)
 | 0,j=>by show (0:Nat).testBit j=_;simp
 | k+1,j=>by
  rw[QS,KS,QI,List.foldl_nil];unfold isW at *
  split
  ·rename_i h;rw[Uo,zrN x k j,zaf];by_cases e:j=k
   ·subst e;simp[h,isW]
   ·rw[Ue e,Uu];unfold isW;congr 1;exact QC.2 (by omega)
  ·rename_i h;rw[zrN x k j];unfold isW;by_cases e:j=k
   ·subst e;rw[Ue h,Uf,Uf]
   ·congr 1;exact QC.2 (by omega)
theorem znF(x:ExD)(j:Nat):(zbm x).testBit j=(decide (j<x.ev.length)&&isW x j):=zrN x _ j
theorem zwf(h:x.ev.length<=48):zbm x<2^64:=by
 refine Qw fun a=>?_;obtain⟨j,c,b⟩:=Ja a;rw[znF,bAT,dE] at b;omega
structure DepOne (x:ExD) (k:Nat):Prop where
 w:∀j,zh x.dt k j=true\/zh x.rm k j=true->isW x j=true
 p:∀j,zh x.dt k j=true\/zh x.ct k j=true\/zh x.rm k j=true->isR x k=true/\zh x.po k j=true
 u:∀i j,zh x.rm k i=true->zh x.rm k j=true->i=j
 l:∀j,zh x.rm k j=true->(evA x j).l=(evA x k).l
theorem zm4(h48:x.ev.length<=48)(hpo:RelOk x.ev.length x.po)(hdt:RelOk x.ev.length x.dt)(hct:RelOk x.ev.length x.ct)(hrm:RelOk x.ev.length x.rm):∀(m i h:Nat),i+m=x.ev.length ->
  (zbS x (zbm x) i (x.ev.drop i) h=true↔(∀k,i<=k->k<x.ev.length->DepOne x k)/\(∀k j,i<=k->k<x.ev.length->zh x.rm k j=true->h.testBit j=false)/\∀k k' j,i<=k->k<k'->k'<x.ev.length->zh x.rm k j=true->zh x.rm k' j=true->False)
 | 0,i,h,hi=>by
  rw[JA (by omega)];exact⟨fun _=>⟨fun k o f=>by omega,fun k j o f=>by omega,fun k k' j o f h3=>by omega⟩,fun _=>rfl⟩
 | m+1,i,h,hi=>by
  have v:i<x.ev.length:=by omega
  have hd:x.ev.drop i=evA x i::x.ev.drop (i+1):=by
   unfold evA;rw[gDe,gE v,<- JD v];rfl
  rw[hd];obtain⟨d,ae⟩:=nm (x.dt.to i);obtain⟨c,af⟩:=nm (x.ct.to i);obtain⟨r,ag⟩:=nm (x.rm.to i);have bd:∀j,d.testBit j=zh x.dt i j:=fun j=>by rw[ae];rfl
  have bc:∀j,c.testBit j=zh x.ct i j:=fun j=>by rw[af];rfl
  have n:∀j,r.testBit j=zh x.rm i j:=fun j=>by rw[ag];rfl
  have ac:d<2^64:=by rw[ae];exact hdt.w i (by omega)
  have ai:c<2^64:=by rw[af];exact hct.w i (by omega)
  have ab:r<2^64:=by rw[ag];exact hrm.w i (by omega)
  have ah:zbS x (zbm x) i (evA x i::x.ev.drop (i+1)) h=if d|||c|||r=0 then zbS x (zbm x) (i+1) (x.ev.drop (i+1)) h
    else if(evA x i).k=1/\jU (d|||r) (zbm x)=0/\jU (d|||c|||r) (x.po.to i)=0 then
     (if r=0 then zbS x (zbm x) (i+1) (x.ev.drop (i+1)) h else if r=2^ctz r/\h.testBit (ctz r)=false/\(evA x (ctz r)).l=(evA x i).l then zbS x (zbm x) (i+1) (x.ev.drop (i+1)) (h|||r) else false)
    else false:=by rw[ae,af,ag];rfl
  rw[ah];have sp:∀(P:Nat->Prop),(∀k,i<=k->k<x.ev.length->P k)↔P i/\∀k,i+1<=k->k<x.ev.length->P k:=fun P =>
   ⟨fun h=>⟨h i (UW _) v,fun k o f=>h k (by omega) f⟩,fun h k o f=>by
    by_cases hk:k=i
    ·rw[hk];exact h.1
    ·exact h.2 k (by omega) f⟩
  have aa:DepOne x i↔(d|||c|||r=0\/((evA x i).k=1/\jU (d|||r) (zbm x)=0/\jU (d|||c|||r) (x.po.to i)=0))/\(∀a b,r.testBit a=true->r.testBit b=true->a=b)/\(∀j,r.testBit j=true->(evA x j).l=(evA x i).l):=by
   have inl:∀j,zh x.dt i j=true\/zh x.rm i j=true->j<x.ev.length:=fun j e=>by
    rcases e with e | e
    ·exact(hdt.bit (by omega) e).2
    ·exact(hrm.bit (by omega) e).2
   constructor
   ·rintro⟨w,p,u,l⟩;refine⟨?_,fun a b g hb=>u a b (by rw[<- n];exact g) (by rw[<- n];exact hb),fun j e=>l j (by rw[<- n];exact e)⟩;by_cases h0:d|||c|||r=0
    ·exact .inl h0
    ·obtain⟨j,e⟩:=zjj h0;have aj:∀j,(d|||c|||r).testBit j=true->zh x.dt i j=true\/zh x.ct i j=true\/zh x.rm i j=true:=fun j e=>by
      rw[Uo,Uo,bd,bc,n,QD,QD] at e;rcases e with(e | e) | e
      ·exact .inl e
      ·exact .inr (.inl e)
      ·exact .inr (.inr e)
     refine .inr ⟨dT (p j (aj j e)).1,(zeA (KX ac ab) (zwf h48)).2 fun j e=>?_,(zeA (KX (KX ac ai) ab) (hpo.w i (by omega))).2 fun j e=>(p j (aj j e)).2⟩;rw[Uo,bd,n,QD] at e;rw[znF,w j e,Up (inl j e)];rfl
   ·rintro⟨o,u,l⟩;have ad:∀j,zh x.dt i j=true\/zh x.ct i j=true\/zh x.rm i j=true->(d|||c|||r).testBit j=true:=fun j e=>by
     rw[Uo,Uo,bd,bc,n];rcases e with e | e | e <;> rw[e] <;> simp
    have nz:∀j,zh x.dt i j=true\/zh x.ct i j=true\/zh x.rm i j=true->(evA x i).k=1/\jU (d|||r) (zbm x)=0/\jU (d|||c|||r) (x.po.to i)=0:=fun j e=>by
     rcases o with o | o
     ·have:=ad j e;rw[o,QA] at this
      cases this
     ·exact o
    refine⟨fun j e=>?_,fun j e=>?_,fun a b g hb=>u a b (by rw[n];exact g) (by rw[n];exact hb),fun j e=>l j (by rw[n];exact e)⟩
    ·have f:=(nz j (by rcases e with e | e;exact .inl e;exact .inr (.inr e))).2.1;have h3:=(zeA (KX ac ab) (zwf h48)).1 f j (by
      rw[Uo,bd,n];rcases e with e | e <;> rw[e] <;> simp)
     rw[znF,bAT] at h3;exact h3.2
    ·have f:=nz j e;exact⟨Up f.1,(zeA (KX (KX ac ai) ab) (hpo.w i (by omega))).1 f.2.2 j (ad j e)⟩
  have ak:d|||c|||r=0->r=0:=fun h0=>Kc fun j=>by
   have:=Gi (fun s=>s.testBit j) h0;simp only[Uo,QA,Bool.or_eq_false_iff] at this;rw[QA];exact this.2
  have qM:∀f,(∀k j,i+1<=k->k<x.ev.length->zh x.rm k j=true->(f.testBit j=false↔h.testBit j=false/\r.testBit j=false))->(∀j,r.testBit j=true->h.testBit j=false)->DepOne x i ->
    ((zbS x (zbm x) (i+1) (x.ev.drop (i+1)) f=true)↔(∀k,i<=k->k<x.ev.length->DepOne x k)/\(∀k j,i<=k->k<x.ev.length->zh x.rm k j=true->h.testBit j=false)/\∀k k' j,i<=k->k<k'->k'<x.ev.length->zh x.rm k j=true->zh x.rm k' j=true->False):=fun f hh hf al=>by
   rw[zm4 h48 hpo hdt hct hrm m (i+1) f (by omega),sp (DepOne x)];constructor
   ·rintro⟨a1,a2,a3⟩;refine⟨⟨al,a1⟩,fun k j k1 k2 k3=>?_,fun k k' j k1 k2 k3 k4 k5=>?_⟩
    ·by_cases hk:k=i
     ·subst hk;exact hf j (by rw[n];exact k3)
     ·exact((hh k j (by omega) k2 k3).1 (a2 k j (by omega) k2 k3)).1
    ·by_cases hk:k=i
     ·subst hk;have:=((hh k' j (by omega) k3 k5).1 (a2 k' j (by omega) k3 k5)).2;rw[n,k4] at this
      cases this
     ·exact a3 k k' j (by omega) k2 k3 k4 k5
   ·rintro⟨a1,a2,a3⟩;refine⟨a1.2,fun k j k1 k2 k3=>(hh k j k1 k2 k3).2 ⟨a2 k j (by omega) k2 k3,?_⟩,fun k k' j k1 k2 k3 k4 k5=>a3 k k' j (by omega) k2 k3 k4 k5⟩
    cases hb:r.testBit j with
    | false=>rfl
    | true=>exact (a3 i k j (UW _) (by omega) k2 (by rw [<- n];exact hb) k3).elim
  by_cases h0:d|||c|||r=0
  ·rw[Gn h0];have t:=ak h0;refine qM h (fun k j _ _ _=>?_) (fun j e=>?_) (aa.2 ⟨.inl h0,fun a b g=>?_,fun j e=>?_⟩)
   ·rw[t,QA];simp
   ·rw[t,QA] at e;cases e
   ·rw[t,QA] at g;cases g
   ·rw[t,QA] at e;cases e
  rw[Gm h0];by_cases z:(evA x i).k=1/\jU (d|||r) (zbm x)=0/\jU (d|||c|||r) (x.po.to i)=0
  ·rw[Gn z];by_cases t:r=0
   ·rw[Gn t];refine qM h (fun k j _ _ _=>?_) (fun j e=>?_) (aa.2 ⟨.inr z,fun a b g=>?_,fun j e=>?_⟩)
    ·rw[t,QA];simp
    ·rw[t,QA] at e;cases e
    ·rw[t,QA] at g;cases g
    ·rw[t,QA] at e;cases e
   ·rw[Gm t];by_cases y:r=2^ctz r/\h.testBit (ctz r)=false/\(evA x (ctz r)).l=(evA x i).l
    ·rw[Gn y];have bz:∀j,r.testBit j=true->j=ctz r:=fun j e=>by
      rw[y.1,zaf] at e;exact dT e
     refine qM (h|||r) (fun k j _ _ _=>?_) (fun j e=>?_) (aa.2 ⟨.inr z,fun a b g hb=>(bz a g).trans (bz b hb).symm,fun j e=>?_⟩)
     ·rw[Uo,Bool.or_eq_false_iff]
     ·rw[bz j e];exact y.2.1
     ·rw[bz j e];exact y.2.2
    ·rw[Gm y];refine⟨fun h=>(by cases h),fun q=>?_⟩;have ho:=aa.1 (q.1 i (UW _) v);obtain⟨j,e⟩:=zjj t;have hz:=(jf.1 (zhO t ab)).2;refine(y ⟨Kc fun a=>?_,q.2.1 i _ (UW _) v (by rw[<- n];exact hz),ho.2.2 _ hz⟩).elim;rw[zaf];by_cases g:a=ctz r
     ·rw[g,hz,Up rfl]
     ·rw[Ue g]
      cases hb:r.testBit a with
      | false=>rfl
      | true=>exact (g (ho.2.1 a _ hb hz)).elim
  ·rw[Gm z];refine⟨fun h=>(by cases h),fun q=>?_⟩;rcases(aa.1 (q.1 i (UW _) v)).1 with o | o
   ·exact(h0 o).elim
   ·exact(z o).elim
end
def twl (s:List Nat) (i:Nat):List Nat:=s.takeWhile fun y => !decide (y=i)
theorem zc1(a:Nat)(s:List Nat)(i:Nat):twl (a::s) i=if a=i then[] else a::twl s i:=by
 unfold twl;rw[Ko];by_cases h:a=i
 ·rw[Gn h,Gm (by simp[h])]
 ·rw[Gm h,Gn (by simp[h])]
theorem zhz:∀{s:List Nat} {i j:Nat},j∈twl s i->j∈s/\j≠i
 | [],i,j,h=>by cases h
 | a::s,i,j,h=>by
  rw[zc1] at h;by_cases b:a=i
  ·rw[Gn b] at h;cases h
  ·rw[Gm b] at h;rcases UA.1 h with rfl | h
   ·exact⟨KA,b⟩
   ·exact⟨JV _ (zhz h).1,(zhz h).2⟩
theorem zjJ:∀{s:List Nat} {i j k:Nat},j∈twl s i->k∈twl s j->k∈twl s i
 | [],i,j,k,h,_=>by cases h
 | a::s,i,j,k,b,c=>by
  rw[zc1] at b c ⊢;by_cases e:a=i
  ·rw[Gn e] at b;cases b
  ·rw[Gm e] at b ⊢;by_cases d:a=j
   ·rw[Gn d] at c;cases c
   ·rw[Gm d] at c;rcases UA.1 c with rfl | c
    ·exact KA
    ·rcases UA.1 b with b | b
     ·exact(d b.symm).elim
     ·exact JV _ (zjJ b c)
theorem zkL{R:Nat->Nat->Prop}:∀{s:List Nat} {i j:Nat},s.Pairwise R->i∈s->j∈twl s i->R j i
 | [],i,j,_,h,_=>by cases h
 | a::s,i,j,hp,hi,b=>by
  rw[zc1] at b;by_cases d:a=i
  ·rw[Gn d] at b;cases b
  ·rw[Gm d] at b;have c:i∈s:=by rcases UA.1 hi with h | h;exact(d h.symm).elim;exact h
   rcases UA.1 b with rfl | b
   ·exact(List.pairwise_cons.1 hp).1 i c
   ·exact zkL (List.pairwise_cons.1 hp).2 c b
theorem ze6:∀(l:List Nat) (f:Nat->Nat) (b:Nat),l.Nodup->∀i j,(zeT l f b i).testBit j=if i∈l then(b.testBit j||decide (j∈twl l i)) else(f i).testBit j
 | [],f,b,_,i,j=>by rw [Gm Qs];rfl
 | a::l,f,b,hn,i,j=>by
  have d:=QR.1 hn;show(zeT l (upd f a b) (b|||2^a) i).testBit j=_;rw[ze6 l _ _ d.2,zc1];by_cases c:i=a
  ·subst c;rw[Gm d.1,Gn KA,zN,Gn rfl];simp
  ·rw[Gm (show ¬a=i from fun e=>c e.symm)];by_cases g:i∈l
   ·rw[Gn g,Gn (JV _ g),Uo,zaf,Bool.or_assoc];congr 1;rw[Bool.eq_iff_iff,QD,dE,dE,dE,UA]
   ·rw[Gm g,Gm (fun h=>by rcases UA.1 h with h | h;exact c h;exact g h),qx _ _ c]
theorem ziS{key:Nat->Nat}{y:Nat}:∀{r:List Nat},r.Pairwise (fun a b=>key a<=key b)->(jv key r y).Pairwise (fun a b=>key a<=key b)
 | [],_=>List.pairwise_singleton _ _
 | z::r,h=>by
  have d:=List.pairwise_cons.1 h;unfold jv
  split
  ·rename_i hlt;refine List.pairwise_cons.2 ⟨fun a c=>?_,ziS d.2⟩;rcases(zfa r).1 c with rfl | c
   ·omega
   ·exact d.1 a c
  ·rename_i hlt;refine List.pairwise_cons.2 ⟨fun a c=>?_,h⟩;rcases UA.1 c with rfl | c
   ·omega
   ·have:=d.1 a c;omega
theorem zo0{key:Nat->Nat}:∀(l acc:List Nat),acc.Pairwise (fun a b=>key a<=key b)->(l.foldl (fun acc x=>jv key acc x) acc).Pairwise (fun a b=>key a<=key b)
 | [],_,h=>h
 | y::l,acc,h=>zo0 l _ (ziS h)
theorem zkP(key:Nat->Nat)(l:List Nat):(zc4 key l).Pairwise (fun a b=>key a<=key b):=zo0 l [] .nil
theorem zeu{key:Nat->Nat}{l:List Nat}{a:Nat}:a∈zc4 key l↔a∈l:=by
 have:a∈(zc4 key l).reverse↔a∈l:=zgl
 rwa [List.mem_reverse] at this
theorem zg3{key:Nat->Nat}:∀{s:List Nat},s.Pairwise (fun a b=>key a<=key b)->s.Nodup->(∀a b,a∈s->b∈s->a≠b->key a≠key b)->s.Pairwise (fun a b=>key a<key b)
 | [],_,_,_ => .nil
 | a::s,h,hn,hi=>by
  have i:=List.pairwise_cons.1 h;have f:=QR.1 hn;refine List.pairwise_cons.2 ⟨fun b g=>?_,zg3 i.2 f.2 fun c d k j=>hi c d (JV _ k) (JV _ j)⟩;have m:=i.1 b g;have l:=hi a b KA (JV _ g) (fun e=>f.1 (by rw[e];exact g));omega
theorem zp4{f g:Nat->Bool}:∀{n:Nat},(∀i,i<n->f i=true->g i=true->False)->zeP f n+zeP g n=zeP (fun i=>f i||g i) n
 | 0,_=>rfl
 | n+1,h=>by
  have a:=zp4 (f:=f) (g:=g) (n:=n) fun i b=>h i (by omega);have:=h n (Qx _);rw[zdh,zdh,zdh,<- a]
  cases hf:f n <;> cases hg:g n <;> simp[hf,hg] at this ⊢ <;> omega
theorem ztE{a:Nat}:∀{n:Nat},a<n->zeP (fun b=>decide (b=a)) n=1
 | 0,h=>Gp h (QX _)
 | n+1,h=>by
  rw[zdh];by_cases e:n=a
  ·subst e;rw[Gn (Up rfl),ztD fun k c=>Ue (by omega)]
  ·rw[Gm (by simp[e]),ztE (by omega)]
theorem zni{f g:Nat->Bool}:∀{n:Nat},(∀i,i<n->f i=true->g i=true)->zeP f n<=zeP g n
 | 0,_=>UW _
 | n+1,h=>by
  have b:=zni (f:=f) (g:=g) (n:=n) fun i a=>h i (by omega);have:=h n (Qx _);rw[zdh,zdh]
  cases hf:f n <;> cases hg:g n <;> simp[hf,hg] at this ⊢ <;> omega
theorem zjf{f g:Nat->Bool}{n j:Nat}(h:∀i,i<n->f i=true->g i=true)(hj:j<n)(h1:f j=false)(h2:g j=true):zeP f n<zeP g n:=by
 have e:=zp4 (f:=f) (g:=fun b=>decide (b=j)) (n:=n) fun i d k l=>by
  have:i=j:=dT l;rw[this,h1] at k;cases k
 rw[ztE hj] at e;have:=zni (f:=fun i=>f i||decide (i=j)) (g:=g) (n:=n) fun i d a=>by
  rw[QD,dE] at a;rcases a with c | c
  ·exact h i d c
  ·rw[c];exact h2
 omega
theorem zmH(s:Nat):zcp s=zeP (fun j=>s.testBit j) 64:=rfl
section
variable{x:ExD}
abbrev sG (x:ExD) (l:Nat):List Nat:=zc4 (zcq x) (qa x l)
theorem zid(l:Nat):(sG x l).Nodup:=by
 have:=zik (x:=x) l;exact(List.reverse_perm _).nodup_iff.1 this
theorem zij(l:Nat):zR x l=(sG x l).reverse:=rfl
theorem zb8{l a:Nat}:a∈qa x l↔a<x.ev.length/\isW x a=true/\(evA x a).l.toNat=l:=by
 unfold qa isW;rw[QO,Ul,bAT,dE,dE]
def zgq (x:ExD):Nat->Nat->RelD×(Nat->UInt8)->RelD×(Nat->UInt8)
 | 0,_,p=>p
 | m+1,l,p=>zgq x m (l+1) (zaj (zR x l) p.1,upd p.2 l (zcG x.ev (zR x l)))
theorem zf0:∀(m l:Nat) (p q:RelD×(Nat->UInt8)),zf1 x m l p=some q↔(∀k,l<=k->k<l+m->(zR x k).headD 48=k)/\q=zgq x m l p
 | 0,l,p,q=>⟨fun h=>⟨fun k b c=>by omega,(Uc h).symm⟩,fun h=>by rw [h.2];rfl⟩
 | m+1,l,p,q=>by
  unfold zf1;by_cases a:(zR x l).headD 48=l
  ·rw[Gn a,zf0 m (l+1)];refine⟨fun h=>⟨fun k b c=>?_,h.2⟩,fun h=>⟨fun k b c=>h.1 k (by omega) (by omega),h.2⟩⟩;by_cases d:k=l
   ·rw[d];exact a
   ·exact h.1 k (by omega) (by omega)
  ·rw[Gm a];exact⟨fun h=>(by cases h),fun h=>(a (h.1 l (UW _) (by omega))).elim⟩
theorem zsW{l:Nat}{r:RelD}{i j:Nat}:zh (zaj (zR x l) r) i j=if i∈qa x l then decide (j∈twl (sG x l) i) else zh r i j:=by
 unfold zh zaj;rw[zij,Ka];show(zeT (sG x l) r.to 0 i).testBit j=_;rw[ze6 _ _ _ (zid l),QA,Us];by_cases h:i∈qa x l
 ·rw[Gn h,Gn (zeu.2 h)]
 ·rw[Gm h,Gm (fun a=>h (zeu.1 a))]
theorem zmd:∀(m l:Nat) (p:RelD×(Nat->UInt8)),(zgq x m l p).1.n=p.1.n/\(∀i j,zh (zgq x m l p).1 i j=true↔(∃k,l<=k/\k<l+m/\i∈qa x k/\j∈twl (sG x k) i)\/((∀k,l<=k->k<l+m->i ∉ qa x k)/\zh p.1 i j=true)) /\
  ∀k,(zgq x m l p).2 k=if l<=k/\k<l+m then zcG x.ev (zR x k) else p.2 k
 | 0,l,p=>⟨rfl,fun i j=>⟨fun h => .inr ⟨fun k u s=>by omega,h⟩,fun h=>by
   rcases h with⟨k,u,s,_⟩ | h
   ·omega
   ·exact h.2⟩,fun k=>(Gm (by omega)).symm⟩
 | m+1,l,p=>by
  obtain⟨u,s,z⟩:=zmd m (l+1) (zaj (zR x l) p.1,upd p.2 l (zcG x.ev (zR x l)));refine⟨u,fun i j=>?_,fun k=>?_⟩
  ·show zh (zgq x m (l+1) _).1 i j=true↔_;rw[s,zsW];have g:∀{k t},i∈qa x k->i∈qa x t->k=t:=fun a b=>(zb8.1 a).2.2.symm.trans (zb8.1 b).2.2;constructor
   ·rintro(⟨k,d,c,f,r⟩ | ⟨d,c⟩)
    ·exact .inl ⟨k,by omega,by omega,f,r⟩
    ·by_cases q:i∈qa x l
     ·rw[Gn q] at c;exact .inl ⟨l,UW _,by omega,q,dT c⟩
     ·rw[Gm q] at c;refine .inr ⟨fun k w v=>?_,c⟩;by_cases e:k=l
      ·rw[e];exact q
      ·exact d k (by omega) (by omega)
   ·rintro(⟨k,d,c,f,r⟩ | ⟨d,c⟩)
    ·by_cases e:k=l
     ·subst e;refine .inr ⟨fun t w v y=>?_,by rw[Gn f];exact Up r⟩;have:=g f y;omega
     ·exact .inl ⟨k,by omega,by omega,f,r⟩
    ·exact .inr ⟨fun k w v=>d k (by omega) (by omega),by rw[Gm (d l (UW _) (by omega))];exact c⟩
  ·show(zgq x m (l+1) _).2 k=_;rw[z];by_cases e:l+1<=k/\k<l+1+m
   ·rw[Gn e,Gn (by omega)]
   ·rw[Gm e];by_cases o:k=l
    ·subst o;rw[Gn (by omega)];show upd p.2 k _ k=_;exact zN _ _ _
    ·rw[Gm (by omega)];exact qx _ _ o
theorem zng(hco:RelOk x.ev.length x.co){locs:Nat}:zai x locs=true↔(∀k,k<locs->(zR x k).headD 48=k)/\(∀i j,i<48->(zh x.co i j=true↔∃k,k<locs/\i∈qa x k/\j∈twl (sG x k) i))/\∀k,k<6->x.mem k=if k<locs then zcG x.ev (zR x k) else 0:=by
 obtain⟨a,b⟩:∃a:RelD×(Nat->UInt8),a=(⟨x.ev.length,fun _=>0⟩,fun _=>0):=⟨_,rfl⟩;obtain⟨v,s,t⟩:=zmd (x:=x) locs 0 a;have z:∀i j,zh a.1 i j=false:=fun i j=>by rw[b];exact QA _
 have g:∀i j,zh (zgq x locs 0 a).1 i j=true↔∃k,k<locs/\i∈qa x k/\j∈twl (sG x k) i:=fun i j=>by
  rw[s];constructor
  ·rintro(⟨k,_,f,m⟩ | ⟨_,h⟩)
   ·exact⟨k,by omega,m⟩
   ·rw[z] at h;cases h
  ·rintro⟨k,f,m⟩;exact .inl ⟨k,UZ _,by omega,m⟩
 have d:∀k,(zgq x locs 0 a).2 k=if k<locs then zcG x.ev (zR x k) else 0:=fun k=>by
  rw[t];by_cases c:k<locs
  ·rw[Gn (by omega),Gn c]
  ·rw[Gm (by omega),Gm c,b]
 have e:zai x locs=match zf1 x locs 0 a with
  | none=>false
  | some p=>jy p.1 x.co&&(List.range 6).all fun l=>decide (p.2 l=x.mem l):=by rw [b];rfl
 rw[e];by_cases o:∀k,k<locs->(zR x k).headD 48=k
 ·rw[(zf0 locs 0 a (zgq x locs 0 a)).2 ⟨fun k _ h=>o k (by omega),rfl⟩];dsimp only;rw[bAT,Qg];constructor
  ·rintro⟨u,f⟩;refine⟨o,fun i j r=>?_,fun k c=>?_⟩
   ·rw[<- zgs u r];exact g i j
   ·rw[<- d];exact(dT (f k (Ul.2 c))).symm
  ·rintro⟨_,f,m⟩;refine⟨?_,fun k c=>Up (by rw[d];exact(m k (Ul.1 c)).symm)⟩;unfold jy;rw[bAT,dE,Qg];refine⟨by rw[v,b];exact hco.n.symm,fun i r=>Up (Kc fun j=>?_)⟩;have:=(g i j).trans (f i j (Ul.1 r)).symm;exact Bool.eq_iff_iff.2 this
 ·cases hg:zf1 x locs 0 a with
  | none=>exact⟨fun h=>(by cases h),fun h=>(o h.1).elim⟩
  | some q=>exact (o fun k c=>((zf0 locs 0 a q).1 hg).1 k (UZ _) (by omega)).elim
end
def fct:Nat->Nat
 | 0=>1
 | n+1=>(n+1)*fct n
theorem zeF:∀n,1<=fct n
 | 0=>UW _
 | n+1=>Nat.mul_pos (Nat.succ_pos n) (zeF n)
theorem zfT{a b:Nat}(h:a<=b):fct a<=fct b:=by
 induction b with
 | zero=>rw [Nat.le_zero.1 h];exact UW _
 | succ b ih =>
  rcases Nat.lt_or_ge b a with c | c
  ·rw[show a=b+1 by omega];exact UW _
  ·refine UL (ih c) ?_;show fct b<=(b+1)*fct b;exact Nat.le_mul_of_pos_left _ (Nat.succ_pos b)
theorem zeG(s:Nat):(els s).Nodup:=by
 unfold els;exact List.Pairwise.filter _ List.nodup_range
theorem zfU(before:Nat->Nat):∀(n left:Nat) (l x:List Nat),left<2^64->x∈zaK before n left l->∃s,x=l++s/\s.Perm (els left)/\∀a t,s=a::t->before a&&&left=0
 | 0,left,l,x,hl,h=>by
  unfold zaK at h
  split at h
  ·rename_i g;rw[KB] at h;exact⟨[],by rw[h,QG],by rw[g,zaC],fun a t e=>by cases e⟩
  ·cases h
 | n+1,left,l,x,hl,h=>by
  unfold zaK at h
  split at h
  ·rename_i g;rw[KB] at h;exact⟨[],by rw[h,QG],by rw[g,zaC],fun a t e=>by cases e⟩
  ·obtain⟨a,d,h⟩:=List.mem_flatMap.1 h
   split at h
   ·rename_i p;obtain⟨s,j,f,_⟩:=zfU before n _ _ x (zay hl) h;rw[zeg hl d] at f;refine⟨a::s,by rw[j,KN];rfl,?_,fun b t e=>by cases e;exact p⟩;refine(List.Perm.cons a f).trans ?_;have k:=zeG left;generalize els left=L at d k;clear f j h hl
    induction L with
    | nil=>cases d
    | cons y r ih =>
     have c:=QR.1 k;rcases UA.1 d with e | e
     ·subst e;rw[Qk,Gm (by simp),List.filter_eq_self.2 fun z m=>by
       have:z≠a:=fun e=>c.1 (by rw[<- e];exact m);simp[this]]
     ·have i:y≠a:=fun o=>c.1 (by rw[o];exact e);rw[Qk,Gn (by simp[i])];exact(List.Perm.swap y a _).trans (List.Perm.cons y (ih e c.2))
   ·cases h
theorem zpH{α β:Type}{f:α->List β}{b:Nat}:∀{l:List α},(∀a∈l,(f a).length<=b)->(l.flatMap f).length<=l.length*b
 | [],_=>by simp
 | a::l,h=>by
  rw[KR,lap,Qp,UP];have:=h a KA;have:=zpH (l:=l) fun x c=>h x (JV _ c);omega
theorem zkk(before:Nat->Nat):∀(n left:Nat) (l:List Nat),left<2^64->(zaK before n left l).length<=fct (els left).length
 | 0,left,l,hl=>by
  unfold zaK
  split
  ·exact zeF _
  ·exact UZ _
 | n+1,left,l,hl=>by
  unfold zaK
  split
  ·exact zeF _
  ·have c:(els left).length=0\/∃m,(els left).length=m+1:=by
    cases(els left).length with
    | zero=>exact .inl rfl
    | succ m=>exact .inr ⟨m,rfl⟩
   rcases c with f | ⟨m,d⟩
   ·rw[List.length_eq_zero_iff.1 f];exact UZ _
   ·rw[d];refine UL (zpH (b:=fct m) fun a e=>?_) (by rw[d];exact UW _)
    split
    ·refine UL (zkk before n _ _ (zay hl)) (zfT ?_);have:=zaL hl e;rw[zbq];omega
    ·exact UZ _
theorem zdf{f:Nat->List (List Nat)}:∀{l:List Nat},l.Nodup->(∀a∈l,a≠0->f a=[])->(l.flatMap f).length<=(f 0).length
 | [],_,_=>UZ _
 | a::l,hn,h=>by
  have b:=QR.1 hn;rw[KR,lap];by_cases e:a=0
  ·subst e;have:l.flatMap f=[]:=List.flatMap_eq_nil_iff.2 fun x c=>h x (JV _ c) fun e=>b.1 (by rw[<- e];exact c);rw[this];exact UW _
  ·rw[h a KA e];have:=zdf b.2 fun x c=>h x (JV _ c);simpa using this
section
variable{n:Nat}
theorem zlv(hn:n<=48):RelOk n (crs n):=⟨rfl,ztA n hn,fun i a=>zpZ n i a⟩
theorem zna(hn:n<=48){a:Nat}(ha:a<n)(h0:a≠0):((z6 (crs n)).to a).testBit 0=true:=by
 have h:=zaM (zlv hn) (i:=a) (j:=0) (by omega);unfold zh at h;rw[h,Up (by omega),Uv];show(if 0<n then(if Nat.testBit 1 0 then jU (zal n) 1&&&zal n else 0) else 0).testBit a=true;rw[Gn (by omega),Gn (by decide),QY];have b:(zal n).testBit a=true:=by
  rw[za8,zbU (by omega) (by omega) (by omega)];exact Up (by omega)
 rw[b,Bool.and_true,zbq];have:je (zal n) 1=je (zal n) (2^0):=rfl;rw[this,zbi (by decide) (by omega),b,Kq];simp;omega
theorem zix(h1:1<=n)(hn:n<=48){o:List Nat}(h:o∈zbW (crs n)):o.Perm (List.range n)/\∃t,o=0::t:=by
 unfold zbW at h
 split at h
 ·obtain⟨s,c,b,m⟩:=zfU _ _ _ _ _ (zeM n) h;rw[QQ] at c;subst c;have e:els (zal ((n:Nat):Int))=List.range n:=by rw[za8];exact zeH (by omega)
  have b:o.Perm (List.range n):=by rw[<- e];exact b
  refine⟨b,?_⟩
  cases o with
  | nil=>have:=b.length_eq;simp at this;omega
  | cons a t =>
   by_cases d:a=0
   ·exact⟨t,by rw[d]⟩
   ·have l:a<n:=Ul.1 (b.subset KA);have i:=m a t rfl;have k:=zna hn l d;have g:(zal ((n:Nat):Int)).testBit 0=true:=by
     rw[za8,zbU (by omega) (by omega) (by omega)];exact Up (by omega)
    have f:((z6 (crs n)).to a&&&zal ((n:Nat):Int)).testBit 0=true:=(by rw[QY,k,g];rfl);have j:((z6 (crs n)).to a&&&zal ((n:Nat):Int))=0:=i;rw[j] at f;simp at f
 ·cases h
theorem zjX(h1:1<=n)(hn:n<=48):(zbW (crs n)).length<=fct (n-1):=by
 unfold zbW
 split
 ·have e:els (zal ((n:Nat):Int))=List.range n:=by rw[za8];exact zeH (by omega)
  have g:(0:Nat)∈els (zal ((n:Nat):Int)):=by rw[e];exact Ul.2 (by omega)
  show(zaK (z6 (crs n)).to 64 (zal ((n:Nat):Int)) []).length<=_;unfold zaK
  split
  ·exact zeF _
  ·refine UL (zdf (zeG _) fun a b f=>?_) ?_
   ·have b:a<n:=(by rw[e] at b;exact Ul.1 b);refine Gm fun h=>?_;have j:=zna hn b f;have d:(zal ((n:Nat):Int)).testBit 0=true:=by
     rw[za8,zbU (by omega) (by omega) (by omega)];exact Up (by omega)
    have c:((z6 (crs n)).to a&&&zal ((n:Nat):Int)).testBit 0=true:=(by rw[QY,j,d];rfl);rw[h] at c;simp at c
   ·split
    ·refine UL (zkk _ _ _ _ (zay (zeM n))) (zfT ?_);have i:=zaL (zeM n) g;rw[e,KU] at i;rw[zbq];omega
    ·exact UZ _
 ·exact UZ _
end
theorem zq0(w:List Nat):(List.range w.length).map (fun k=>w.getD k 0)=w:=by
 apply KO;intro i;rw[KT];by_cases h:i<w.length
 ·rw[Ki h,gE h];show some (w.getD i 0)=_;rw[gDe,gE h];rfl
 ·rw[JI (by simpa using h),JI (by simpa using h)];rfl
theorem zjS{w rk:List Nat}(h1:1<=w.length)(hn:w.length<=48)(h:rk∈zO w):rk.Perm w/\rk.headD 48=w.headD 48:=by
 unfold zO at h;dsimp only at h
 split at h
 ·obtain⟨o,d,rfl⟩:=UI.1 h;obtain⟨b,t,c⟩:=zix h1 hn d;refine⟨?_,?_⟩
  ·have:=b.map fun k=>w.getD k 0;rw[zq0] at this;exact this
  ·rw[c];show w.getD 0 0=_
   cases w with
   | nil=>simp at h1
   | cons a r=>rfl
 ·cases h
theorem zim{w:List Nat}(h1:1<=w.length)(hn:w.length<=48):(zO w).length<=fct (w.length-1)/\(zO w).length<=10000:=by
 unfold zO;dsimp only
 split
 ·rename_i h;rw[QJ];exact⟨zjX h1 hn,h⟩
 ·exact⟨UZ _,UZ _⟩
def zcE:List (List Nat)->Nat
 | []=>1
 | f::fs=>f.length*zcE fs
theorem zhJ{a b lim:Nat}(hb:1<=b):min (min a lim*b) lim=min (a*b) lim:=by
 by_cases c:a<=lim
 ·rw[QW c]
 ·have e:min a lim=lim:=Nat.min_eq_right (by omega);have f:lim<=lim*b:=Nat.le_mul_of_pos_right _ (by omega);have d:lim<=a*b:=UL (by omega) (Nat.le_mul_of_pos_right a (by omega:0<b));rw[e,Nat.min_eq_right f,Nat.min_eq_right d]
theorem zgv:∀fs:List (List Nat),(∀f∈fs,f≠[])->1<=zcE fs
 | [],_=>UW _
 | f::fs,h=>Nat.mul_pos (List.length_pos_iff.2 (h f KA)) (zgv fs fun g a=>h g (JV _ a))
theorem zlx{lim:Nat}:∀(fs:List (List Nat)) (n:Nat),n<=lim->(∀f∈fs,f≠[])->zf2 lim fs n=some (min (n*zcE fs) lim)
 | [],n,h,_=>by
  show some n=some (min (n*1) lim);rw[UX,QW h]
 | f::fs,n,h,hf=>by
  have b:f≠[]:=hf f KA;have c:1<=f.length:=List.length_pos_iff.2 b;unfold zf2;rw[Gm b,zlx fs _ (Qy ..) fun g a=>hf g (JV _ a)];congr 1;show min (min (n*f.length) lim*zcE fs) lim=min (n*(f.length*zcE fs)) lim;rw[<- UC,zhJ (zgv fs fun g a=>hf g (JV _ a))]
theorem zks{lim:Nat}:∀(fs:List (List Nat)) (n:Nat),(∃f∈fs,f=[])->zf2 lim fs n=none
 | [],n,⟨f,h,_⟩=>by cases h
 | f::fs,n,⟨g,hg,e⟩=>by
  unfold zf2;by_cases a:f=[]
  ·rw[Gn a]
  ·rw[Gm a];refine zks fs _ ⟨g,?_,e⟩;rcases UA.1 hg with h | h
   ·rw[h] at e;exact Gp e a
   ·exact h
def up (len:Nat):Nat->Nat->Nat
 | 0,_=>1
 | m+1,k=>if k<len then k*up len m (k+1) else 1
theorem zrV(len:Nat):∀m k,1<=k->1<=up len m k
 | 0,_,_=>UW _
 | m+1,k,h=>by
  unfold up
  split
  ·exact Nat.mul_pos h (zrV len m (k+1) (by omega))
  ·exact UW _
theorem zp6{lim len:Nat}:∀(m k n:Nat),1<=k->n<=lim->zht lim len m k n=min (n*up len m k) lim
 | 0,k,n,_,h=>by
  show n=min (n*1) lim;rw[UX,QW h]
 | m+1,k,n,hk,h=>by
  unfold zht up
  split
  ·rw[zp6 m (k+1) _ (by omega) (Qy ..),zhJ (zrV len m (k+1) (by omega)),UC]
  ·rw[UX,QW h]
theorem zrW:∀(m k:Nat),1<=k->∀len,len<=k+m->k<=len->fct (k-1)*up len m k=fct (len-1)
 | 0,k,h1,len,h2,h3=>by
  show fct (k-1)*1=_;rw[UX,show len=k by omega]
 | m+1,k,h1,len,h2,h3=>by
  unfold up
  split
  ·rename_i hlt;rw[<- zrW m (k+1) (by omega) len (by omega) (by omega),<- UC];congr 1;obtain⟨j,rfl⟩:∃j,k=j+1:=⟨k-1,by omega⟩;show fct j*(j+1)=(j+1)*fct j;exact UM _ _
  ·rw[UX,show len=k by omega]
theorem zwz{len:Nat}(h:1<=len):up len len 2=fct (len-1):=by
 by_cases b:2<=len
 ·have:=zrW len 2 (by decide) len (by omega) b;have a:fct (2-1)=1:=rfl;rw[a,UY] at this;exact this
 ·have e:len=1:=by omega
  subst e;rfl
def zcD:List (List Nat)->Nat
 | []=>1
 | w::ws=>fct (w.length-1)*zcD ws
theorem zc7:∀ws,1<=zcD ws
 | []=>UW _
 | w::ws=>Nat.mul_pos (zeF _) (zc7 ws)
theorem zp5{lim:Nat}:∀(ws:List (List Nat)) (n:Nat),n<=lim->(∀w∈ws,1<=w.length)->zhs lim ws n=min (n*zcD ws) lim
 | [],n,h,_=>by
  show n=min (n*1) lim;rw[UX,QW h]
 | w::ws,n,h,hw=>by
  unfold zhs;rw[zp6 _ _ _ (by decide) h,zwz (hw w KA),zp5 ws _ (Qy ..) fun v a=>hw v (JV _ a),zhJ (zc7 ws)];show _=min (n*(fct (w.length-1)*zcD ws)) lim;rw[UC]
theorem zhQ{m:MixD}{lim:Nat}(h1:1<=lim)(hw:∀w∈m.wr,1<=w.length):jx m lim=if ∀r∈m.rs,r.2≠[] then min (zcE (m.rs.map (·.2))*zcD m.wr) lim else 0:=by
 unfold jx
 split
 ·rename_i e;rw[Gm];intro h;rw[zlx _ _ h1 fun f b=>by
   obtain⟨r,a,rfl⟩:=UI.1 b;exact h r a] at e
  cases e
 ·rename_i n e;by_cases h:∀r∈m.rs,r.2≠[]
  ·rw[Gn h];rw[zlx _ _ h1 fun f b=>by
    obtain⟨r,a,rfl⟩:=UI.1 b;exact h r a] at e
   have e:=Uc e;rw[zp5 _ _ (by rw[<- e];exact Qy ..) hw,<- e,UY,zhJ (zc7 _)]
  ·rw[zks] at e
   ·cases e
   ·refine Jo fun c=>h fun r a d=>c ⟨r.2,UI.2 ⟨r,a,rfl⟩,d⟩
theorem zcK{m:MixD}(hw:∀w∈m.wr,1<=w.length):jx m 1≠0↔∀r∈m.rs,r.2≠[]:=by
 rw[zhQ (by decide) hw];constructor
 ·intro h;refine Jo fun c=>h (Gm c)
 ·intro h;rw[Gn h];have d:1<=zcE (m.rs.map (·.2)):=zgv _ fun f e=>by
   obtain⟨r,a,rfl⟩:=UI.1 e;exact h r a
  have b:1<=zcE (m.rs.map (·.2))*zcD m.wr:=Nat.mul_pos d (zc7 _);rw[Nat.min_eq_right b];decide
theorem zrx(m:MixD):(zem m).length=qi (zM m).reverse:=by
 unfold zem qt;rw[QJ,QJ,KU]
theorem zpi:∀rs:List (Nat×List Nat),qi (rs.map fun r=>r.2.length)=zcE (rs.map (·.2))
 | []=>rfl
 | r::rs=>by
  show r.2.length*qi (rs.map fun r=>r.2.length)=r.2.length*zcE (rs.map (·.2));rw[zpi rs]
theorem zph:∀ws:List (List Nat),(∀w∈ws,1<=w.length/\w.length<=48)->qi (ws.map fun w=>(zO w).length)<=zcD ws
 | [],_=>UW _
 | w::ws,h=>by
  show(zO w).length*qi (ws.map fun w=>(zO w).length)<=fct (w.length-1)*zcD ws;have a:=h w KA;exact Un (zim a.1 a.2).1 (zph ws fun v b=>h v (JV _ b))
theorem ztI{m:MixD}(hw:∀w∈m.wr,1<=w.length/\w.length<=48)(h:jx m 20001<=20000):(ja m).length<=jx m 20001:=by
 unfold ja
 split
 ·exact UZ _
 ·rename_i f;have b:=(zcK fun w a=>(hw w a).1).1 f;have e:=zhQ (m:=m) (lim:=20001) (by decide) fun w a=>(hw w a).1;rw[Gn b] at e;have c:zcE (m.rs.map (·.2))*zcD m.wr=jx m 20001:=by
   by_cases g:zcE (m.rs.map (·.2))*zcD m.wr<=20001
   ·rw[e,QW g]
   ·rw[Nat.min_eq_right (by omega)] at e;omega
  rw[zrx,<- c];unfold zM;have d:qi (m.rs.map (fun r=>r.2.length)++m.wr.map fun w=>(zO w).length).reverse=qi (m.rs.map (fun r=>r.2.length)++m.wr.map fun w=>(zO w).length):=by
   rw[zgw];unfold zb2;rw[zgJ,UY]
  rw[d,zc8,zpi];exact Nat.mul_le_mul_left _ (zph _ hw)
theorem zi3{m:MixD}(hw:∀w∈m.wr,1<=w.length){lim:Nat}(hl:1<=lim)(h:jx m lim<lim)(h1:jx m 1≠0):∀w∈m.wr,fct (w.length-1)<lim:=by
 have b:=(zcK hw).1 h1;have e:=zhQ (m:=m) hl hw;rw[Gn b] at e;have f:zcE (m.rs.map (·.2))*zcD m.wr<lim:=by
  refine Qw fun j=>?_;rw[Nat.min_eq_right j] at e;omega
 have k:1<=zcE (m.rs.map (·.2)):=by
  refine Nat.one_le_iff_ne_zero.2 fun c=>?_;rw[c,UR,Nat.zero_min] at e;have d:=zhQ (m:=m) (lim:=1) (by decide) hw;rw[Gn b,c,UR,Nat.zero_min] at d;exact h1 d
 have g:zcD m.wr<lim:=KF (Nat.le_mul_of_pos_left _ (by omega)) f;have:∀a:List (List Nat),∀w∈a,fct (w.length-1)<=zcD a:=by
  intro a
  induction a with
  | nil=>intro w h;cases h
  | cons v a ih =>
   intro w h;show _<=fct (v.length-1)*zcD a;rcases UA.1 h with e | e
   ·rw[e];exact Nat.le_mul_of_pos_right _ (zc7 a)
   ·exact UL (ih w e) (Nat.le_mul_of_pos_left _ (zeF _))
 exact fun w i=>KF (this _ w i) g
def zbR:Nat->List PathD->List Ev
 | _,[]=>[]
 | k,P::Ps=>jH k P.ev++zbR (k+1) Ps
theorem zjl:∀(Ps:List PathD) (k:Nat) (x:ExD),(asR k Ps x).ev=x.ev++zbR k Ps/\(asR k Ps x).po=x.po/\(asR k Ps x).rf=x.rf/\(asR k Ps x).co=x.co/\(asR k Ps x).mem=x.mem/\(asR k Ps x).dt.n=x.dt.n/\(asR k Ps x).ct.n=x.ct.n/\(asR k Ps x).rm.n=x.rm.n
 | [],k,x=>⟨(QG _).symm,rfl,rfl,rfl,rfl,rfl,rfl,rfl⟩
 | P::Ps,k,x=>by
  obtain⟨a,b⟩:=zjl Ps (k+1) (zbY x k P);refine⟨?_,b⟩;show(asR (k+1) Ps (zbY x k P)).ev=x.ev++(jH k P.ev++zbR (k+1) Ps);rw[a,<- KN];rfl
theorem zmX:∀(Ps:List PathD) (k n:Nat),Ps.foldl (fun n P=>n+P.ev.length) n=n+(zbR k Ps).length
 | [],k,n=>rfl
 | P::Ps,k,n=>by
  show Ps.foldl _ (n+P.ev.length)=n+(jH k P.ev++zbR (k+1) Ps).length;rw[zmX Ps (k+1),lap];unfold jH;rw[QJ,UB]
theorem zi7:∀(Ps:List PathD) (k:Nat) (e:Ev),e∈zbR k Ps->∃P∈Ps,∃a∈P.ev,∃t:Nat,k<=t/\t<k+Ps.length/\e={ a with th:=t }
 | [],k,e,h=>by cases h
 | P::Ps,k,e,h=>by
  rcases QN.1 h with h | h
  ·obtain⟨a,b,rfl⟩:=UI.1 h;exact⟨P,KA,a,b,k,UW _,by rw[Qp];omega,rfl⟩
  ·obtain⟨Q,c,a,b,t,g,f,d⟩:=zi7 Ps (k+1) e h;exact⟨Q,JV _ c,a,b,t,by omega,by rw[Qp];omega,d⟩
section
variable{init:List UInt8}{Ps:List PathD}
theorem zbO:(zak init Ps).ev=qG 0 init++zbR 0 Ps:=(zjl Ps 0 _).1
theorem ztT:(zak init Ps).ev.length=zb1 init.length Ps:=by
 rw[zbO,lap,z7];exact(zmX Ps 0 init.length).symm
theorem zdm:(zak init Ps).rf=zdN (zb1 init.length Ps)/\(zak init Ps).co=zdN (zb1 init.length Ps)/\(zak init Ps).mem=(fun _=>0)/\(zak init Ps).dt.n=zb1 init.length Ps/\(zak init Ps).ct.n=zb1 init.length Ps/\(zak init Ps).rm.n=zb1 init.length Ps:=by
 obtain⟨_,_,f,c,e,a,b,d⟩:=zjl Ps 0 { ex0 (zb1 init.length Ps) with ev:=qG 0 init };exact⟨f,c,e,a,b,d⟩
theorem zrB{i:Nat}(h:i<init.length):(zak init Ps).ev[i]?=some ⟨-1,2,UInt8.ofNat i,init[i],0,0,0⟩:=by
 rw[zbO,Jq (by rw[z7];exact h),zbj init 0 h,UQ]
theorem ztS{e:Ev}(h:e∈(zak init Ps).ev):(∃i,∃h:i<init.length,e=⟨-1,2,UInt8.ofNat i,init[i],0,0,0⟩)\/∃P∈Ps,∃a∈P.ev,∃t:Nat,t<Ps.length/\e={ a with th:=t }:=by
 rw[zbO] at h;rcases QN.1 h with h | h
 ·obtain⟨i,b,rfl⟩:=Kj h;rw[z7] at b;have:=zbj init 0 b;rw[gE (by rw[z7];exact b),UQ] at this;exact .inl ⟨i,b,Uc this⟩
 ·obtain⟨P,c,a,f,t,_,g,d⟩:=zi7 Ps 0 e h;exact .inr ⟨P,c,a,f,t,by omega,d⟩
theorem zbT(hi6:init.length<=6)(hP:∀P∈Ps,PathW init.length P){e:Ev}(h:e∈(zak init Ps).ev)(hk:e.k=1\/e.k=2):e.l.toNat<init.length:=by
 rcases ztS h with⟨i,f,rfl⟩ | ⟨P,c,a,d,t,_,rfl⟩
 ·show(UInt8.ofNat i).toNat<_;rw[KH];omega
 ·exact(hP P c).b.loc a d hk
end
def wrF:Nat->List Ev->Nat->List Nat
 | _,[],_=>[]
 | i,e::es,l=>(if e.k=2/\e.l.toNat=l then [i] else [])++wrF (i+1) es l
theorem zkF:∀(es:List Ev) (i:Nat) (W:List (List Nat)),(∀e∈es,e.k=2->e.l.toNat<W.length)->(zjv i es W).length=W.length/\∀l,l<W.length->(zjv i es W).getD l []=W.getD l []++wrF i es l
 | [],i,W,h=>⟨rfl,fun l c=>(QG _).symm⟩
 | e::es,i,W,h=>by
  unfold zjv;by_cases f:e.k=2
  ·rw[Gn f];obtain⟨V,g⟩:=nm (W.set e.l.toNat (W.getD e.l.toNat []++[i]));have b:V.length=W.length:=by rw[g,QL]
   obtain⟨o,j⟩:=zkF es (i+1) V fun d n q=>by rw[b];exact h d (JV _ n) q
   rw[<- g];refine⟨o.trans b,fun l c=>?_⟩;rw[j l (by omega)];show _=W.getD l []++((if e.k=2/\e.l.toNat=l then[i] else[])++wrF (i+1) es l);rw[<- KN];congr 1;rw[g,gDe];by_cases a:e.l.toNat=l
   ·rw[Gn ⟨f,a⟩,a,JC c];rfl
   ·rw[Gm fun h=>a h.2,JT a,QG,gDe]
  ·rw[Gm f];obtain⟨o,j⟩:=zkF es (i+1) W fun d n=>h d (JV _ n);refine⟨o,fun l c=>?_⟩;rw[j l c];show _=W.getD l []++((if e.k=2/\e.l.toNat=l then[i] else[])++wrF (i+1) es l);rw[Gm fun h=>f h.1,QQ]
theorem zrP:∀(es:List Ev) (i l:Nat),wrF i es l=((List.range es.length).filter fun j=>decide ((es.getD j ev0).k=2)&&decide ((es.getD j ev0).l.toNat=l)).map (· + i)
 | [],i,l=>rfl
 | e::es,i,l=>by
  unfold wrF;rw[zrP es (i+1) l,Qp,List.range_succ_eq_map,Qk,List.filter_map];have d:(e::es).getD 0 ev0=e:=rfl;rw[d];have f:∀j,(e::es).getD (Nat.succ j) ev0=es.getD j ev0:=fun j=>rfl;have c:∀L:List Nat,(L.map Nat.succ).map (· + i)=L.map (· + (i+1)):=fun L=>by
   rw[UF];exact Kl fun j _=>by show j.succ+i=j+(i+1);omega
  by_cases a:e.k=2/\e.l.toNat=l
  ·rw[Gn a,Up a.1,Up a.2,Gn (show(true&&true)=true from rfl),Uz,c,UQ];rfl
  ·rw[Gm a];have:(decide (e.k=2)&&decide (e.l.toNat=l))=false:=by
    rw[Bool.and_eq_false_iff];by_cases b:e.k=2
    ·exact .inr (Ue fun h=>a ⟨b,h⟩)
    ·exact .inl (Ue b)
   rw[this,Gm Kv,c];rfl
theorem zew(all:List Ev)(W:List (List Nat)):∀(es:List Ev) (i:Nat) (r:Nat×List Nat),r∈zcl all W i es->∃j e,es[j]?=some e/\e.k=1/\r=(i+j,(W.getD e.l.toNat []).filter fun w=>decide ((all.getD w ev0).v=e.v))
 | [],i,r,h=>by cases h
 | e::es,i,r,h=>by
  unfold zcl at h
  split at h
  ·rename_i f;rcases UA.1 h with h | h
   ·exact⟨0,e,rfl,f,by rw[h];rfl⟩
   ·obtain⟨j,d,b,c,a⟩:=zew all W es (i+1) r h;exact⟨j+1,d,b,c,by rw[a,show i+1+j=i+(j+1) by omega]⟩
  ·obtain⟨j,d,b,c,a⟩:=zew all W es (i+1) r h;exact⟨j+1,d,b,c,by rw[a,show i+1+j=i+(j+1) by omega]⟩
theorem zmg(all:List Ev)(W:List (List Nat)):∀(es:List Ev) (i:Nat),(zcl all W i es).length<=es.length
 | [],i=>UW _
 | e::es,i=>by
  have:=zmg all W es (i+1);unfold zcl
  split
  ·rw[Qp,Qp];omega
  ·rw[Qp];omega
structure ChoiceW (init:List UInt8) (Ps:List PathD) (m:MixD):Prop where
 i1:1<=init.length
 i6:init.length<=6
 p4:Ps.length<=4
 P:∀P∈Ps,PathW init.length P
 n:zb1 init.length Ps<=48
 m:m=zat (zak init Ps) init.length
section
variable{init:List UInt8}{Ps:List PathD}{m:MixD}
theorem ChoiceW.base(h:ChoiceW init Ps m):m.base=zak init Ps:=by rw[h.m];rfl
theorem ChoiceW.len(h:ChoiceW init Ps m):m.base.ev.length=zb1 init.length Ps:=by rw[h.base,ztT]
theorem ChoiceW.wr(h:ChoiceW init Ps m):m.wr.length=init.length/\∀l,l<init.length->m.wr.getD l []=qa m.base l:=by
 obtain⟨c,a⟩:=zkF (zak init Ps).ev 0 (List.replicate init.length []) fun e d f=>by
  rw[JL];exact zbT h.i6 h.P d (.inr f)
 rw[JL] at c a;have e:m.wr=zjv 0 (zak init Ps).ev (List.replicate init.length []):=by rw[h.m];rfl
 rw[e];refine⟨c,fun l b=>?_⟩;rw[a l b,zrP,gDe,List.getElem?_replicate,Gn b,h.base];show[]++List.map (· + 0) _=_;rw[QQ];show List.map (fun x=>x) _=_;rw[List.map_id'];rfl
theorem ChoiceW.wr_mem(h:ChoiceW init Ps m){w:List Nat}(hw:w∈m.wr):∃l,l<init.length/\w=qa m.base l/\m.wr[l]?=some w:=by
 obtain⟨c,b⟩:=h.wr;obtain⟨l,a,rfl⟩:=Kj hw;refine⟨l,by omega,?_,gE a⟩;have:=b l (by omega);rw[gDe,gE a] at this;exact this
theorem ChoiceW.ini(h:ChoiceW init Ps m){i:Nat}(hi:i<init.length):evA m.base i=⟨-1,2,UInt8.ofNat i,init[i],0,0,0⟩:=by
 unfold evA;rw[h.base,gDe,zrB hi];rfl
theorem zhv(x:ExD)(l:Nat):(qa x l).length<=x.ev.length:=by
 refine UL (JK ..) ?_;rw[KU];exact UW _
theorem zgb{x:ExD}{l a:Nat}(h:a∈qa x l):a<x.ev.length:=Ul.1 (QO.1 h).1
theorem ChoiceW.head(h:ChoiceW init Ps m){l:Nat}(hl:l<init.length):1<=(qa m.base l).length/\(qa m.base l).headD 48=l:=by
 have b:=h.i6;have c:init.length<=m.base.ev.length:=by
  rw[h.len];exact zh6 _ _
 have e:=zhf (p:=fun i=>decide ((evA m.base i).k=2)&&decide ((evA m.base i).l.toNat=l)) (n:=m.base.ev.length) (k:=l) (by omega) (fun i a=>by
  rw[h.ini (by omega)];have:¬(UInt8.ofNat i).toNat=l:=by rw[KH];omega
  rw[Ue this,Uf]) (by
  rw[h.ini hl];have:(UInt8.ofNat l).toNat=l:=by rw[KH];omega
  rw[Up this];rfl)
 unfold qa;rw[e];exact⟨by simp,rfl⟩
theorem ChoiceW.rs(h:ChoiceW init Ps m){r:Nat×List Nat}(hr:r∈m.rs):∃e,m.base.ev[r.1]?=some e/\e.k=1/\r.2=(m.wr.getD e.l.toNat []).filter fun w=>decide ((m.base.ev.getD w ev0).v=e.v):=by
 rw[h.m] at hr ⊢;obtain⟨j,e,c,b,a⟩:=zew _ _ _ _ _ hr;rw[UQ] at a;exact⟨e,by rw[a];exact c,b,by rw[a];rfl⟩
theorem ChoiceW.src(h:ChoiceW init Ps m){r:Nat×List Nat}(hr:r∈m.rs):r.1<m.base.ev.length/\r.2.length<=48/\∀s∈r.2,s<m.base.ev.length:=by
 have g:=h.n;rw[<- h.len] at g;obtain⟨e,d,f,a⟩:=h.rs hr;have hlt:=(Jr.1 d).1;have b:e.l.toNat<init.length:=by
  have:e∈(zak init Ps).ev:=by rw[<- h.base];exact JW d
  exact zbT h.i6 h.P this (.inl f)
 rw[h.wr.2 _ b] at a;refine⟨hlt,?_,fun s c=>?_⟩
 ·rw[a];have i:=zhv m.base e.l.toNat;have j:=JK (fun w=>decide ((m.base.ev.getD w ev0).v=e.v)) (qa m.base e.l.toNat);omega
 ·rw[a] at c;exact zgb (QO.1 c).1
theorem ChoiceW.c(h:ChoiceW init Ps m):MixC m:=by
 have e:=h.n;rw[<- h.len] at e;refine⟨?_,?_,fun r b=>?_,fun w a=>?_⟩
 ·have:m.rs.length<=m.base.ev.length:=by
   rw[h.m];exact zmg _ _ _ _
  omega
 ·rw[h.wr.1];exact h.i6
 ·obtain⟨j,g,f⟩:=h.src b;exact⟨by omega,by omega,fun s d=>by have:=f s d;omega⟩
 ·obtain⟨l,i,rfl,_⟩:=h.wr_mem a;have:=zhv m.base l;omega
theorem ChoiceW.w1(h:ChoiceW init Ps m){w:List Nat}(hw:w∈m.wr):1<=w.length/\w.length<=48:=by
 refine⟨?_,h.c.wr w hw⟩;obtain⟨l,a,rfl,_⟩:=h.wr_mem hw;exact(h.head a).1
theorem ChoiceW.b(h:ChoiceW init Ps m):MixB m:=by
 have q:=h.n;rw[<- h.len] at q;obtain⟨t,s,x,_⟩:=zdm (init:=init) (Ps:=Ps);have g:=h.c;refine⟨q,g.rl,g.wl,fun i _=>?_,fun i _=>?_,g.rs,fun w j=>?_⟩
 ·rw[h.base,t];show 0<2^64;decide
 ·rw[h.base,s];show 0<2^64;decide
 ·obtain⟨r,d⟩:=h.w1 j;refine⟨d,(zim r d).2,fun k u=>?_⟩;have o:=(zjS r d u).1;have f:=o.length_eq;refine⟨fun e=>by rw[e] at f;simp at f;omega,by omega,fun a v=>?_⟩;obtain⟨l,f,rfl,_⟩:=h.wr_mem j;exact zgb (o.subset v)
end
theorem zgx:∀(Ts:List (List PathD)) (ds:List Nat) (P:PathD),P∈js Ts ds->∃T∈Ts,P∈T
 | Ts,[],P,h=>by cases Ts <;> cases h
 | [],d::ds,P,h=>by cases h
 | T::Ts,d::ds,P,h=>by
  unfold js at h;rcases QN.1 h with h | h
  ·cases hd:T[d]? with
   | none=>rw [hd] at h;cases h
   | some Q =>
    rw[hd] at h;rw[KB.1 h];exact⟨T,KA,JW hd⟩
  ·obtain⟨U,a,b⟩:=zgx Ts ds P h;exact⟨U,JV _ a,b⟩
theorem zjV:∀(Ts:List (List PathD)) (ds:List Nat),(js Ts ds).length<=Ts.length
 | Ts,[]=>by cases Ts <;> exact UZ _
 | [],d::ds=>UW _
 | T::Ts,d::ds=>by
  unfold js;rw[lap,Qp];have:=zjV Ts ds
  cases T[d]? <;> simp <;> omega
section
variable{p:Prg}{V:List UInt8}
theorem zis(hO:OkG p){l:List InsD}(hl:l∈p.threads){P:PathD}(hP:P∈zJ V l):PathW p.init.length P:=by
 obtain⟨R,d,rfl⟩:=UI.1 hP;have c:=hO.tl l hl;rw[hO.il] at c;obtain⟨a,b⟩:=zts c V R d;exact zwR a b
theorem zeK(hO:OkG p){m:MixD}(hm:m∈qu p V):∃ds∈qt ((p.threads.map (zJ V)).map List.length),ChoiceW p.init (js (p.threads.map (zJ V)) ds) m:=by
 unfold qu zsQ at hm;obtain⟨ds,c,a⟩:=List.mem_filterMap.1 hm;unfold ziI at a
 split at a
 ·rename_i b;refine⟨ds,c,hO.i1,hO.i6,?_,fun P e=>?_,b,(Uc a).symm⟩
  ·have:=zjV (p.threads.map (zJ V)) ds;rw[QJ] at this;have:=hO.t4;omega
  ·obtain⟨T,d,f⟩:=zgx _ _ _ e;obtain⟨l,g,rfl⟩:=UI.1 d;exact zis hO g f
 ·cases a
theorem zsc{α:Type}{f g:α->Nat}:∀{l:List α},(∀a∈l,f a<=g a)->(l.map f).sum<=(l.map g).sum
 | [],_=>UW _
 | a::l,h=>by
  rw[Uz,Uz,List.sum_cons,List.sum_cons];have:=h a KA;have:=zsc (l:=l) fun b c=>h b (JV _ c);omega
theorem zlj{α:Type}{f:α->Nat}:∀{l:List α} {a:α},a∈l->f a<=(l.map f).sum
 | b::l,a,h=>by
  rw[Uz,List.sum_cons];rcases UA.1 h with e | e
  ·rw[e];omega
  ·have:=zlj (f:=f) e;omega
theorem zjh(hO:OkG p):CandB p V:=by
 refine⟨fun l n P i=>(zis hO n i).b,fun d=>?_,fun d m a=>?_,fun d j m a o=>?_,fun d j=>?_⟩
 ·have o:(qu p V).length<=(qt ((p.threads.map (zJ V)).map List.length)).length:=List.length_filterMap_le _ _;have k:(qt ((p.threads.map (zJ V)).map List.length)).length=qi ((p.threads.map (zJ V)).map List.length).reverse:=by
   unfold qt;rw[QJ,KU]
  have e:=d.2.1 p.threads.length (UW _);rw[Qt] at e;rw[zgw] at k;have q:zb2 ((p.threads.map (zJ V)).map List.length)<=4096:=by rw[UF];exact e
  omega
 ·obtain⟨_,_,h⟩:=zeK hO a;exact h.c
 ·obtain⟨_,_,h⟩:=zeK hO a;exact h.b
 ·show((qu p V).flatMap ja).length<=30000;rw[List.length_flatMap];have:((qu p V).map fun m=>(ja m).length).sum<=((qu p V).map fun m=>jx m 20001).sum:=zsc fun m a=>by
   obtain⟨_,_,h⟩:=zeK hO a;refine ztI (fun w g=>h.w1 g) ?_;have:=zlj (f:=fun m=>jx m 20001) a;omega
  omega
end
def chR (Rs:List (List (List Nat))) (ds:List Nat) (j:Nat):List Nat:=(Rs.getD j []).getD (ds.getD j 0) []
theorem zws(R:List (List Nat))(Rs:List (List (List Nat)))(ds:List Nat):chR (R::Rs) ds 0=R.getD (ds.headD 0) []:=by
 cases ds <;> rfl
theorem zhh(R:List (List Nat))(Rs:List (List (List Nat)))(ds:List Nat)(j:Nat):chR (R::Rs) ds (j+1)=chR Rs ds.tail j:=by
 cases ds with
 | nil=>show (Rs.getD j []).getD (([]:List Nat).getD (j+1) 0) []=(Rs.getD j []).getD (([]:List Nat).getD j 0) [];rfl
 | cons d ds=>rfl
theorem zek(ev:List Ev):∀(Rs:List (List (List Nat))) (l:Nat) (ds:List Nat) (p:RelD×(Nat->UInt8)),(∀j,j<Rs.length->(chR Rs ds j).Nodup)->(∀i j j',j<Rs.length->j'<Rs.length->i∈chR Rs ds j->i∈chR Rs ds j'->j=j') ->
  (coG ev l Rs ds p).1.n=p.1.n/\∀i j,zh (coG ev l Rs ds p).1 i j=true↔(∃k,k<Rs.length/\i∈chR Rs ds k/\j∈twl (chR Rs ds k).reverse i)\/((∀k,k<Rs.length->i ∉ chR Rs ds k)/\zh p.1 i j=true)
 | [],l,ds,p,_,_=>⟨rfl,fun i j=>⟨fun h => .inr ⟨fun k f=>Gp f (QX _),h⟩,fun h=>by
   rcases h with⟨k,f,_⟩ | h
   ·exact Gp f (QX _)
   ·exact h.2⟩⟩
 | R::Rs,l,ds,p,hn,hd=>by
  obtain⟨q,r⟩:=nm ((zaj (R.getD (ds.headD 0) []) p.1,upd p.2 l (ev.getD ((R.getD (ds.headD 0) []).getLastD 0) ev0).v));have e:coG ev l (R::Rs) ds p=coG ev (l+1) Rs ds.tail q:=by rw[r];rfl
  obtain⟨u,o⟩:=zek ev Rs (l+1) ds.tail q (fun j t=>by rw[<- zhh R];exact hn (j+1) (by rw[Qp];omega)) (fun i j j' t w a b=>by
   rw[<- zhh R] at a b;have:=hd i (j+1) (j'+1) (by rw[Qp];omega) (by rw[Qp];omega) a b;omega)
  have s:=hn 0 (by rw[Qp];omega);rw[e];refine⟨u.trans (by rw[r];rfl),fun i j=>?_⟩;have x:zh q.1 i j=if i∈chR (R::Rs) ds 0 then decide (j∈twl (chR (R::Rs) ds 0).reverse i) else zh p.1 i j:=by
   rw[r,<- zws R Rs ds];unfold zh zaj;show(zeT (chR (R::Rs) ds 0).reverse p.1.to 0 i).testBit j=_;rw[ze6 _ _ _ ((List.reverse_perm _).nodup_iff.2 s),QA,Us];by_cases h:i∈chR (R::Rs) ds 0
   ·rw[Gn h,Gn (List.mem_reverse.2 h)]
   ·rw[Gm h,Gm fun o=>h (List.mem_reverse.1 o)]
  rw[o,x];constructor
  ·rintro(⟨k,d,c,g⟩ | ⟨d,c⟩)
   ·rw[<- zhh R] at c g;exact .inl ⟨k+1,by rw[Qp];omega,c,g⟩
   ·by_cases h:i∈chR (R::Rs) ds 0
    ·rw[Gn h] at c;exact .inl ⟨0,by rw[Qp];omega,h,dT c⟩
    ·rw[Gm h] at c;refine .inr ⟨fun k f=>?_,c⟩
     cases k with
     | zero=>exact h
     | succ k=>rw [zhh];exact d k (by rw [Qp] at f;omega)
  ·rintro(⟨k,d,c,g⟩ | ⟨d,c⟩)
   ·cases k with
    | zero =>
     refine .inr ⟨fun k f h=>?_,by rw[Gn c];exact Up g⟩;rw[<- zhh R] at h;have:=hd i 0 (k+1) (by rw[Qp];omega) (by rw[Qp];omega) c h;omega
    | succ k =>
     rw[zhh] at c g;exact .inl ⟨k,by rw[Qp] at d;omega,c,g⟩
   ·refine .inr ⟨fun k f h=>?_,?_⟩
    ·rw[<- zhh R] at h;exact d (k+1) (by rw[Qp];omega) h
    ·rw[Gm (d 0 (by rw[Qp];omega))];exact c
theorem zp3(x:ExD):∀(Rs:List (List (List Nat))) (l:Nat) (ds:List Nat) (p:RelD×(Nat->UInt8)),(∀j,j<Rs.length->chR Rs ds j=zR x (l+j))->coG x.ev l Rs ds p=zgq x Rs.length l p
 | [],l,ds,p,_=>rfl
 | R::Rs,l,ds,p,h=>by
  have a:=h 0 (by rw[Qp];omega);rw[zws,UK] at a;show coG x.ev (l+1) Rs ds.tail (zaj (R.getD (ds.headD 0) []) p.1,upd p.2 l (zcG x.ev (R.getD (ds.headD 0) [])))=zgq x Rs.length (l+1) (zaj (zR x l) p.1,upd p.2 l (zcG x.ev (zR x l)));rw[a];refine zp3 x Rs (l+1) ds.tail _ fun j b=>?_;rw[<- zhh R,h (j+1) (by rw[Qp];omega)];congr 1;omega
theorem zlT:∀{s:List Nat},s.Nodup->s.Pairwise fun a b=>a∈twl s b
 | [],_ => .nil
 | y::s,h=>by
  have f:=QR.1 h;refine List.pairwise_cons.2 ⟨fun b d=>?_,?_⟩
  ·rw[zc1,Gm (fun e=>f.1 (by rw[e];exact d))];exact KA
  ·refine List.Pairwise.imp_of_mem ?_ (zlT f.2);intro a b g d c;rw[zc1,Gm (fun e=>f.1 (by rw[e];exact d))];exact JV _ c
theorem zpq{key:Nat->Nat}:∀{s:List Nat},s.Pairwise (fun a b=>key a<key b)->∀a b,a∈s->b∈s->a≠b->key a≠key b
 | [],_,a,b,ha,_,_=>by cases ha
 | y::s,h,a,b,ha,hb,hne=>by
  have d:=List.pairwise_cons.1 h;rcases UA.1 ha with e | e
  ·rcases UA.1 hb with c | c
   ·exact Gp (e.trans c.symm) hne
   ·have:=d.1 b c;rw[e];omega
  ·rcases UA.1 hb with c | c
   ·have:=d.1 a e;rw[c];omega
   ·exact zpq d.2 a b e c hne
theorem zqf{key:Nat->Nat}:∀{a b:List Nat},a.Pairwise (fun x y=>key x<key y)->b.Pairwise (fun x y=>key x<key y)->(∀x,x∈a↔x∈b)->a=b
 | [],[],_,_,_=>rfl
 | [],y::b,_,_,h=>Gp ((h y).2 (KA ..)) (by simp)
 | x::a,[],_,_,h=>Gp ((h x).1 (KA ..)) (by simp)
 | x::a,y::b,ha,hb,h=>by
  rw[List.pairwise_cons] at ha hb;have e:x=y:=by
   rcases UA.1 ((h x).1 (KA ..)) with e | i
   ·exact e
   ·rcases UA.1 ((h y).2 (KA ..)) with e | c
    ·exact e.symm
    ·have:=hb.1 x i;have:=ha.1 y c;omega
  subst e;rw[zqf ha.2 hb.2 fun z=>?_];have g:=h z;rw[UA,UA] at g;constructor
  ·intro d;rcases g.1 (.inr d) with e | c
   ·subst e;have:=ha.1 z d;omega
   ·exact c
  ·intro f;rcases g.2 (.inr f) with e | c
   ·subst e;have:=hb.1 z f;omega
   ·exact c
theorem zil{x:ExD}{l:Nat}{rk:List Nat}(h48:x.ev.length<=48)(hp:rk.Perm (qa x l))(hb:∀i,i∈rk->∀j,zh x.co i j=decide (j∈twl rk.reverse i)):zR x l=rk:=by
 have k:(qa x l).Nodup:=List.nodup_range.filter _;have q:rk.Nodup:=hp.nodup_iff.2 k;have g:rk.reverse.Nodup:=(List.reverse_perm _).nodup_iff.2 q;have hlt:∀i,i∈rk->i<64:=fun i n=>by have:=zgb (hp.subset n);omega
 have key:rk.reverse.Pairwise fun a b=>zcq x a<zcq x b:=by
  refine List.Pairwise.imp_of_mem ?_ (zlT g);intro a b d c f;have d:=List.mem_reverse.1 d;have c:=List.mem_reverse.1 c;show zcp (x.co.to a)<zcp (x.co.to b);rw[zmH,zmH];refine zjf (j:=a) (fun i _ n=>?_) (hlt a d) ?_ ?_
  ·have p:zh x.co a i=true:=n;rw[hb a d] at p;show zh x.co b i=true;rw[hb b c];exact Up (zjJ f (dT p))
  ·show zh x.co a a=false;rw[hb a d];exact Ue fun h=>(zhz h).2 rfl
  ·show zh x.co b a=true;rw[hb b c];exact Up f
 have mem:∀a,a∈sG x l↔a∈rk.reverse:=fun a=>zeu.trans (hp.mem_iff.symm.trans List.mem_reverse.symm);have e:sG x l=rk.reverse:=by
  exact zqf (key:=zcq x) (zg3 (zkP _ _) (zid l) fun a b d c o=>zpq key a b ((mem a).1 d) ((mem b).1 c) o) key mem
 rw[zij,e,Ka]
section
variable{init:List UInt8}{Ps:List PathD}{m:MixD}{ds:List Nat}
theorem zdj(h:ChoiceW init Ps m):(zG m ds).ev.length<=48:=by
 rw[zhR,h.len];exact h.n
theorem ChoiceW.ch(h:ChoiceW init Ps m)(hd:ds∈qt (zM m)):∀l,l<init.length->(chR (m.wr.map zO) (ds.drop m.rs.length) l).Perm (qa m.base l)/\(chR (m.wr.map zO) (ds.drop m.rs.length) l).headD 48=l:=by
 intro l g;obtain⟨s,r⟩:=za6 hd;obtain⟨w1,i⟩:=h.wr;have b:l<m.wr.length:=by omega
 have e:m.wr[l]=qa m.base l:=by
  have:=i l g;rw[gDe,gE b] at this;exact this
 have f:(zM m)[m.rs.length+l]?=some (zO (qa m.base l)).length:=by
  unfold zM;rw[Jm (by rw[QJ];omega),QJ,Jw,KT,gE b,e];rfl
 have a:m.rs.length+l<ds.length:=by rw[s];exact(Jr.1 f).1
 have c:=r _ _ _ f (gE a);have o:(m.wr.map zO).getD l []=zO (qa m.base l):=by
  rw[gDe,KT,gE b,e];rfl
 have q:(ds.drop m.rs.length).getD l 0=ds[m.rs.length+l]:=by
  rw[gDe,Kx,gE a];rfl
 have v:chR (m.wr.map zO) (ds.drop m.rs.length) l=(zO (qa m.base l))[ds[m.rs.length+l]]:=by
  unfold chR;rw[o,q,gDe,gE c];rfl
 have u:chR (m.wr.map zO) (ds.drop m.rs.length) l∈zO (qa m.base l):=by rw[v];exact gM c
 obtain⟨j,p⟩:=h.head g;have d:(qa m.base l).length<=48:=by
  have:=zhv m.base l;have:=h.n;have:=h.len;omega
 obtain⟨t,k⟩:=zjS j d u;exact⟨t,k.trans p⟩
theorem ChoiceW.chx(h:ChoiceW init Ps m)(hd:ds∈qt (zM m)):(∀j,j<(m.wr.map zO).length->(chR (m.wr.map zO) (ds.drop m.rs.length) j).Nodup)/\∀i j j',j<(m.wr.map zO).length->j'<(m.wr.map zO).length->i∈chR (m.wr.map zO) (ds.drop m.rs.length) j->i∈chR (m.wr.map zO) (ds.drop m.rs.length) j'->j=j':=by
 rw[QJ,h.wr.1];refine⟨fun j c=>(h.ch hd j c).1.nodup_iff.2 (List.nodup_range.filter _),fun i j j' c d a b=>?_⟩;have a:=(h.ch hd j c).1.subset a;have b:=(h.ch hd j' d).1.subset b;exact(zb8.1 a).2.2.symm.trans (zb8.1 b).2.2
theorem ChoiceW.rank(h:ChoiceW init Ps m)(hd:ds∈qt (zM m)){l:Nat}(hl:l<init.length):zR (zG m ds) l=chR (m.wr.map zO) (ds.drop m.rs.length) l:=by
 obtain⟨n,f⟩:=h.chx hd;obtain⟨_,p⟩:=zek m.base.ev (m.wr.map zO) 0 (ds.drop m.rs.length) (m.base.co,m.base.mem) n f;refine zil (zdj h) (h.ch hd l hl).1 fun i c j=>?_;have e:zh (zG m ds).co i j=zh (coG m.base.ev 0 (m.wr.map zO) (ds.drop m.rs.length) (m.base.co,m.base.mem)).1 i j:=rfl;rw[e,Bool.eq_iff_iff,p,dE];have a:l<(m.wr.map zO).length:=by rw[QJ,h.wr.1];exact hl
 constructor
 ·rintro(⟨k,b,d,g⟩ | ⟨b,d⟩)
  ·have:=f i k l b a d c;rw[<- this];exact g
  ·exact Gp c (b l a)
 ·exact fun o => .inl ⟨l,a,c,o⟩
theorem ChoiceW.res(h:ChoiceW init Ps m)(hd:ds∈qt (zM m)):((zG m ds).co,(zG m ds).mem)=zgq (zG m ds) init.length 0 (⟨(zG m ds).ev.length,fun _=>0⟩,fun _=>0):=by
 have e:=zp3 (zG m ds) (m.wr.map zO) 0 (ds.drop m.rs.length) (m.base.co,m.base.mem) fun j a=>by
  rw[QJ,h.wr.1] at a;rw[UQ,h.rank hd a]
 obtain⟨_,c,d,_⟩:=zdm (init:=init) (Ps:=Ps);have b:(m.base.co,m.base.mem)=((⟨(zG m ds).ev.length,fun _=>0⟩,fun _=>0):RelD×(Nat->UInt8)):=by
  rw[zhR,h.len,h.base,c,d];rfl
 rw[QJ,h.wr.1] at e;show coG (zG m ds).ev 0 (m.wr.map zO) (ds.drop m.rs.length) (m.base.co,m.base.mem)=_;rw[e,b]
theorem zig(a:RelD):jy a a=true:=by
 unfold jy;rw[Up rfl,Uv,Qg];exact fun i _=>Up rfl
theorem ChoiceW.co(h:ChoiceW init Ps m)(hd:ds∈qt (zM m)):zai (zG m ds) init.length=true:=by
 unfold zai;have e:=(zf0 (x:=zG m ds) init.length 0 (⟨(zG m ds).ev.length,fun _=>0⟩,fun _=>0) _).2 ⟨fun k _ a=>by
  rw[h.rank hd (by omega)];exact(h.ch hd k (by omega)).2,h.res hd⟩
 rw[e];dsimp only;rw[zig,Uv,Qg];exact fun l _=>Up rfl
end
theorem zc5{r:RelD}{n:Nat}(hn:r.n=n)(h48:n<=48)(h:∀i j,i<48->zh r i j=true->i<n/\j<n):RelOk n r:=by
 refine .of hn h48 h fun i c=>Qw fun a=>?_;obtain⟨j,d,b⟩:=Ja a;have:=(h i j c b).2;omega
theorem zpl(ev:List Ev){i j:Nat}:zh (poR ev) i j=true↔∃e,ev[i]?=some e/\e.th ≠ -1/\i<j/\j<ev.length/\(ev.getD j ev0).th=e.th:=by
 unfold zh poR;show(zb3 ev i).testBit j=true↔_;unfold zb3
 cases he:ev[i]? with
 | none=>simp
 | some e =>
  have g:i<ev.length:=(Jr.1 he).1;dsimp only;by_cases b:e.th = -1
  ·rw[Gn b];simp[b]
  ·rw[Gm b,zlJ];rw[Qq];constructor
   ·rintro(h | ⟨m,f,d,a⟩)
    ·simp at h
    ·rw[zkf] at a;exact⟨e,rfl,b,by omega,by omega,by rw[d];exact a⟩
   ·rintro⟨k,c,_,f,d,a⟩
    cases c
    refine .inr ⟨j-(i+1),by omega,by omega,?_⟩;rw[zkf,show i+1+(j-(i+1))=j by omega];exact a
theorem zpb:∀(rs:List (Nat×List Nat)) (ds:List Nat) (f:Nat->Nat) (i j:Nat),(rfF rs ds f i).testBit j=true↔(f i).testBit j=true\/∃(t:Nat) (r:Nat×List Nat),rs[t]?=some r/\i=r.2.getD (ds.getD t 0) 0/\j=r.1
 | [],ds,f,i,j=>⟨fun h => .inl h,fun h=>by
   rcases h with h | ⟨t,r,h,_⟩
   ·exact h
   ·simp at h⟩
 | (r,s)::rs,ds,f,i,j=>by
  show(rfF rs ds.tail (upd f (s.getD (ds.headD 0) 0) (f (s.getD (ds.headD 0) 0)|||2^r)) i).testBit j=true↔_;rw[zpb rs];have d:∀t,ds.tail.getD t 0=ds.getD (t+1) 0:=fun t=>by cases ds <;> rfl
  have g:ds.headD 0=ds.getD 0 0:=by cases ds <;> rfl
  have k:(upd f (s.getD (ds.headD 0) 0) (f (s.getD (ds.headD 0) 0)|||2^r) i).testBit j=true↔(f i).testBit j=true\/(i=s.getD (ds.getD 0 0) 0/\j=r):=by
   rw[g];by_cases e:i=s.getD (ds.getD 0 0) 0
   ·rw[e,zN,Uo,zaf,QD,dE];simp
   ·rw[qx _ _ e];exact⟨.inl,fun h=>h.resolve_right fun a=>e a.1⟩
  rw[k];constructor
  ·rintro((h | ⟨b,a⟩) | ⟨t,q,b,a,c⟩)
   ·exact .inl h
   ·exact .inr ⟨0,(r,s),rfl,b,a⟩
   ·exact .inr ⟨t+1,q,b,by rw[<- d];exact a,c⟩
  ·rintro(h | ⟨t,q,b,a,c⟩)
   ·exact .inl (.inl h)
   ·cases t with
    | zero =>
     have b:some (r,s)=some q:=b
     cases b
     exact .inl (.inr ⟨a,c⟩)
    | succ t=>exact .inr ⟨t,q,b,by rw [d];exact a,c⟩
theorem zfE(b:Nat):∀(ps:List (Nat×Nat)) (f:Nat->Nat) (i j:Nat),(zgu b ps f i).testBit j=true↔(f i).testBit j=true\/∃p∈ps,i=b+p.1/\j=b+p.2
 | [],f,i,j=>⟨fun h => .inl h,fun h=>by
   rcases h with h | ⟨p,h,_⟩
   ·exact h
   ·cases h⟩
 | p::ps,f,i,j=>by
  show(zgu b ps (upd f (b+p.1) (f (b+p.1)|||2^(b+p.2))) i).testBit j=true↔_;rw[zfE b ps];have c:(upd f (b+p.1) (f (b+p.1)|||2^(b+p.2)) i).testBit j=true↔(f i).testBit j=true\/(i=b+p.1/\j=b+p.2):=by
   by_cases e:i=b+p.1
   ·rw[e,zN,Uo,zaf,QD,dE];simp
   ·rw[qx _ _ e];simp[e]
  rw[c];constructor
  ·rintro((h | h) | ⟨q,a,h⟩)
   ·exact .inl h
   ·exact .inr ⟨p,KA,h⟩
   ·exact .inr ⟨q,JV _ a,h⟩
  ·rintro(h | ⟨q,a,h⟩)
   ·exact .inl (.inl h)
   ·rcases UA.1 a with e | e
    ·rw[e] at h;exact .inl (.inr h)
    ·exact .inr ⟨q,e,h⟩
theorem getD_some{L:List Nat}{k:Nat}(h:k<L.length):L[k]?=some (L.getD k 0):=by
 rw[gDe,gE h];rfl
theorem zvj{L:List Nat}{k v:Nat}(h:L[k]?=some v):L.getD k 0=v:=by
 rw[gDe,h];rfl
def zer (sel:PathD->List (Nat×Nat)):Nat->List PathD->Nat->Nat->Prop
 | _,[],_,_=>False
 | b,P::Ps,i,j=>(∃p∈sel P,i=b+p.1/\j=b+p.2)\/zer sel (b+P.ev.length) Ps i j
theorem zh0(x:ExD)(k:Nat)(P:PathD):(zbY x k P).ev.length=x.ev.length+P.ev.length:=by
 show(x.ev++jH k P.ev).length=_;rw[lap];unfold jH;rw[QJ]
theorem ztV:∀(Ps:List PathD) (k:Nat) (x:ExD) (i j:Nat),zh (asR k Ps x).dt i j=true↔zh x.dt i j=true\/zer PathD.data x.ev.length Ps i j
 | [],k,x,i,j=>⟨fun h => .inl h,fun h=>h.elim id False.elim⟩
 | P::Ps,k,x,i,j=>by
  show zh (asR (k+1) Ps (zbY x k P)).dt i j=true↔_;rw[ztV Ps,zh0];show((zgu x.ev.length P.data x.dt.to i).testBit j=true\/_)↔_;rw[zfE,or_assoc];rfl
theorem ztW:∀(Ps:List PathD) (k:Nat) (x:ExD) (i j:Nat),zh (asR k Ps x).ct i j=true↔zh x.ct i j=true\/zer PathD.ctrl x.ev.length Ps i j
 | [],k,x,i,j=>⟨fun h => .inl h,fun h=>h.elim id False.elim⟩
 | P::Ps,k,x,i,j=>by
  show zh (asR (k+1) Ps (zbY x k P)).ct i j=true↔_;rw[ztW Ps,zh0];show((zgu x.ev.length P.ctrl x.ct.to i).testBit j=true\/_)↔_;rw[zfE,or_assoc];rfl
theorem ztU:∀(Ps:List PathD) (k:Nat) (x:ExD) (i j:Nat),zh (asR k Ps x).rm i j=true↔zh x.rm i j=true\/zer PathD.rmw x.ev.length Ps i j
 | [],k,x,i,j=>⟨fun h => .inl h,fun h=>h.elim id False.elim⟩
 | P::Ps,k,x,i,j=>by
  show zh (asR (k+1) Ps (zbY x k P)).rm i j=true↔_;rw[ztU Ps,zh0];show((zgu x.ev.length P.rmw x.rm.to i).testBit j=true\/_)↔_;rw[zfE,or_assoc];rfl
theorem zlu{sel:PathD->List (Nat×Nat)}:∀(Ps:List PathD) (k b i j:Nat),(∀P∈Ps,∀p∈sel P,p.1<P.ev.length/\p.2<P.ev.length)->zer sel b Ps i j->i<b+(zbR k Ps).length/\j<b+(zbR k Ps).length
 | [],k,b,i,j,h,a=>a.elim
 | P::Ps,k,b,i,j,h,a=>by
  have e:(zbR k (P::Ps)).length=P.ev.length+(zbR (k+1) Ps).length:=by
   show(jH k P.ev++zbR (k+1) Ps).length=_;rw[lap];unfold jH;rw[QJ]
  rw[e];rcases a with⟨p,d,g,f⟩ | a
  ·have:=h P KA p d;omega
  ·have:=zlu Ps (k+1) _ i j (fun Q c=>h Q (JV _ c)) a;omega
section
variable{init:List UInt8}{Ps:List PathD}{m:MixD}{ds:List Nat}
theorem zcZ(n i j:Nat):¬zh (zdN n) i j=true:=fun h=>by
 have h:(0:Nat).testBit j=true:=h;simp at h
theorem zgX(h:∀P∈Ps,PathW init.length P):(∀i j,zh (zak init Ps).dt i j=true↔zer PathD.data init.length Ps i j)/\(∀i j,zh (zak init Ps).ct i j=true↔zer PathD.ctrl init.length Ps i j)/\∀i j,zh (zak init Ps).rm i j=true↔zer PathD.rmw init.length Ps i j:=by
 obtain⟨b,a⟩:∃b:ExD,b={ ex0 (zb1 init.length Ps) with ev:=qG 0 init }:=⟨_,rfl⟩;have c:b.ev.length=init.length:=by rw[a];exact z7 init 0
 refine⟨fun i j=>?_,fun i j=>?_,fun i j=>?_⟩
 ·have:=ztV Ps 0 b i j;rw[c] at this;show zh (asR 0 Ps _).dt i j=true↔_;rw[<- a,this];exact⟨fun h=>h.resolve_left (by rw[a];exact zcZ _ i j),.inr⟩
 ·have:=ztW Ps 0 b i j;rw[c] at this;show zh (asR 0 Ps _).ct i j=true↔_;rw[<- a,this];exact⟨fun h=>h.resolve_left (by rw[a];exact zcZ _ i j),.inr⟩
 ·have:=ztU Ps 0 b i j;rw[c] at this;show zh (asR 0 Ps _).rm i j=true↔_;rw[<- a,this];exact⟨fun h=>h.resolve_left (by rw[a];exact zcZ _ i j),.inr⟩
theorem ChoiceW.rfb(h:ChoiceW init Ps m)(hd:ds∈qt (zM m)){i j:Nat}:zh (zG m ds).rf i j=true↔∃(t:Nat) (r:Nat×List Nat),m.rs[t]?=some r/\i∈r.2/\r.2[ds.getD t 0]?=some i/\j=r.1:=by
 obtain⟨q,o⟩:=za6 hd;obtain⟨p,_⟩:=zdm (init:=init) (Ps:=Ps);have e:zh (zG m ds).rf i j=(rfF m.rs ds m.base.rf.to i).testBit j:=rfl;rw[e,zpb];have z:¬(m.base.rf.to i).testBit j=true:=by
  rw[h.base,p];exact zcZ _ i j
 have d:∀{t r},m.rs[t]?=some r->ds.getD t 0<r.2.length:=fun{t r} g=>by
  have n:=(Jr.1 g).1;have k:(zM m)[t]?=some r.2.length:=by
   unfold zM;rw[Jq (by rw[QJ];exact n),KT,g];rfl
  have a:t<ds.length:=by rw[q];exact(Jr.1 k).1
  rw[gDe,gE a];exact o _ _ _ k (gE a)
 constructor
 ·rintro(h | ⟨t,r,b,f,c⟩)
  ·exact Gp h z
  ·have hlt:=d b;have l:r.2[ds.getD t 0]?=some i:=by
    rw[f];exact getD_some hlt
   exact⟨t,r,b,JW l,l,c⟩
 ·rintro⟨t,r,b,_,f,c⟩;exact .inr ⟨t,r,b,(zvj f).symm,c⟩
structure Rels6 (n:Nat) (x:ExD):Prop where
 po:RelOk n x.po
 rf:RelOk n x.rf
 co:RelOk n x.co
 dt:RelOk n x.dt
 ct:RelOk n x.ct
 rm:RelOk n x.rm
theorem ChoiceW.rels(h:ChoiceW init Ps m)(hd:ds∈qt (zM m)):Rels6 (zG m ds).ev.length (zG m ds):=by
 have c:=zdj (ds:=ds) h;obtain⟨b1,s,b3,b4,z,b6⟩:=zdm (init:=init) (Ps:=Ps);have hl:(zG m ds).ev.length=zb1 init.length Ps:=by rw[zhR,h.len]
 have g:((zb1 init.length Ps:Nat):Int)=((zG m ds).ev.length:Nat):=by rw[hl]
 obtain⟨d1,d2,d3⟩:=zgX h.P;have a:init.length+(zbR 0 Ps).length=(zG m ds).ev.length:=by
  rw[zhR,h.base,zbO,lap,z7]
 refine⟨?_,?_,?_,?_,?_,?_⟩
 ·have e:(zG m ds).po=poR (zG m ds).ev:=by
   show m.base.po=poR m.base.ev;rw[h.base];rfl
  rw[e];refine zc5 rfl c fun i j _ a=>?_;obtain⟨e,u,_,_,h3,_⟩:=(zpl _).1 a;exact⟨(Jr.1 u).1,h3⟩
 ·refine zc5 (by show m.base.rf.n=_;rw[h.base,b1];exact g) c fun i j _ a=>?_;obtain⟨t,r,x,w,_,g3⟩:=(h.rfb hd).1 a;obtain⟨s1,_,s3⟩:=h.src (JW x);exact⟨s3 i w,by rw[g3];exact s1⟩
 ·obtain⟨v,c2⟩:=h.chx hd;obtain⟨y,f⟩:=zek m.base.ev (m.wr.map zO) 0 (ds.drop m.rs.length) (m.base.co,m.base.mem) v c2;refine zc5 (by show(coG m.base.ev 0 (m.wr.map zO) (ds.drop m.rs.length) (m.base.co,m.base.mem)).1.n=_;rw[y,h.base,s];exact g) c fun i j _ a=>?_;have a:zh (coG m.base.ev 0 (m.wr.map zO) (ds.drop m.rs.length) (m.base.co,m.base.mem)).1 i j=true:=a;rcases(f i j).1 a with⟨k,q,o,a3⟩ | ⟨_,o⟩
  ·rw[QJ,h.wr.1] at q;have d:=(h.ch hd k q).1;exact⟨zgb (d.subset o),zgb (d.subset (List.mem_reverse.1 (zhz a3).1))⟩
  ·rw[h.base,s] at o;exact Gp o (zcZ _ i j)
 ·refine zc5 (by show m.base.dt.n=_;rw[h.base,b4];exact g) c fun i j _ a=>?_;have a:zh m.base.dt i j=true:=a;rw[h.base,d1] at a;have:=zlu Ps 0 _ i j (fun P l p d=>(h.P P l).b.dt p d) a;omega
 ·refine zc5 (by show m.base.ct.n=_;rw[h.base,z];exact g) c fun i j _ a=>?_;have a:zh m.base.ct i j=true:=a;rw[h.base,d2] at a;have:=zlu Ps 0 _ i j (fun P l p d=>(h.P P l).b.ct p d) a;omega
 ·refine zc5 (by show m.base.rm.n=_;rw[h.base,b6];exact g) c fun i j _ a=>?_;have a:zh m.base.rm i j=true:=a;rw[h.base,d3] at a;have:=zlu Ps 0 _ i j (fun P l p d=>(h.P P l).b.rm p d) a;omega
end
theorem zvT{p:Prg}{V:List UInt8}(hO:OkG p){x:ExD}(hx:x∈q8 p V):∃Ps m ds,ChoiceW p.init Ps m/\m∈qu p V/\jx m 1≠0/\ds∈qt (zM m)/\x=zG m ds:=by
 obtain⟨m,b,hx⟩:=List.mem_flatMap.1 hx;unfold ja at hx
 split at hx
 ·cases hx
 ·rename_i c;obtain⟨d,_,h⟩:=zeK hO b;obtain⟨ds,a,rfl⟩:=UI.1 hx;exact⟨_,m,ds,h,b,c,a,rfl⟩
structure GoodX (k:Nat) (x:ExD):Prop where
 n:x.ev.length<=48
 k1:1<=k
 k6:k<=6
 kn:k<=x.ev.length
 ini:qz x.ev=k
 po:x.po=poR x.ev
 rels:Rels6 x.ev.length x
 co:zai x k=true
 ev0:(evA x 0).k=2/\(evA x 0).l=0
 w8:∀l,(qa x l).length<=8
theorem zkd:∀(a b:List Ev),(∀e∈a,e.th = -1)->(∀e∈b,e.th ≠ -1)->qz (a++b)=a.length
 | [],b,_,hb=>by
  unfold qz
  cases b with
  | nil=>rfl
  | cons e b=>rw [QQ,Ko,Gm (by simpa using hb e KA)]
 | e::a,b,ha,hb=>by
  rw[Qi,zop,Gn (ha e KA),zkd a b (fun d c=>ha d (JV _ c)) hb,Qp]
theorem zpM{n:Nat}(h:fct (n-1)<20001):n<=8:=by
 refine Nat.le_of_not_lt fun a=>?_;have b:fct 8<=fct (n-1):=zfT (by omega);have c:fct 8=40320:=rfl;omega
section
variable{init:List UInt8}{Ps:List PathD}{m:MixD}{ds:List Nat}
theorem ChoiceW.inits(h:ChoiceW init Ps m):qz m.base.ev=init.length:=by
 rw[h.base,zbO,zkd,z7]
 ·intro e c;obtain⟨i,b,rfl⟩:=Kj c;rw[z7] at b;have:=zbj init 0 b;rw[gE (by rw[z7];exact b)] at this;rw[Uc this]
 ·intro e c;obtain⟨P,f,a,d,t,_,_,rfl⟩:=zi7 Ps 0 e c;show((t:Nat):Int) ≠ -1;omega
theorem ChoiceW.good(h:ChoiceW init Ps m)(hd:ds∈qt (zM m))(h1:jx m 1≠0)(hc:jx m 20001<=20000):GoodX init.length (zG m ds):=by
 have e:init.length<=m.base.ev.length:=by rw[h.len];exact zh6 _ _
 have j:=h.ini (i:=0) (by have:=h.i1;omega);refine⟨zdj h,h.i1,h.i6,e,h.inits,?_,h.rels hd,h.co hd,?_,fun l=>?_⟩
 ·show m.base.po=poR m.base.ev;rw[h.base];rfl
 ·show(evA m.base 0).k=2/\(evA m.base 0).l=0;rw[j];exact⟨rfl,rfl⟩
 ·show(qa m.base l).length<=8;by_cases n:l<init.length
  ·have d:=h.wr.2 l n;have c:l<m.wr.length:=by have:=h.wr.1;omega
   have o:qa m.base l∈m.wr:=by
    rw[<- d,gDe,gE c];exact gM c
   exact zpM (zi3 (fun w d=>(h.w1 d).1) (lim:=20001) (by decide) (by omega) h1 _ o)
  ·have:qa m.base l=[]:=by
    refine Jd.2 fun a p=>?_;obtain⟨f,g,q⟩:=zb8.1 p;have b:evA m.base a∈(zak init Ps).ev:=by
     rw[<- h.base];unfold evA;rw[gDe,gE f];exact gM f
    have:=zbT h.i6 h.P b (.inr (dT g));omega
   rw[this];exact UZ _
end
theorem zoG{p:Prg}{V:List UInt8}{most:Nat}(hO:OkG p)(hc:zas p V most)(hm:most<=20000){x:ExD}(hx:x∈q8 p V):GoodX p.init.length x:=by
 obtain⟨Ps,m,ds,h,a,c,b,rfl⟩:=zvT hO hx;refine h.good b c ?_;have d:=hc.2.2;have:=zlj (f:=fun m=>jx m 20001) a;omega
structure RightP (x:ExD):Prop where
 ev:jE x.ev (qz x.ev)=true
 rel:∀r∈[x.po,x.rf,x.co,x.dt,x.ct,x.rm],r.n=x.ev.length/\okR r=true
 po:jy x.po (poR x.ev)=true
 rf:za2 x=true
 co:zai x (qz x.ev)=true
section
variable{k:Nat}{x:ExD}{i:Nat}
structure SpW (y:ExD):Prop where
 w20:∀l,(qa y l).length<=20
 po:zK y.po.to
 rf:zK y.rf.to
 co:zK y.co.to
 dt:zK y.dt.to
 ct:zK y.ct.to
 rm:zK y.rm.to
end
inductive TC (R:Nat->Nat->Prop):Nat->Nat->Prop
 | one {a b:Nat} (h:R a b):TC R a b
 | step {a b c:Nat} (h:TC R a b) (k:R b c):TC R a c
theorem TC.first{R:Nat->Nat->Prop}{a b c:Nat}(h:R a b)(k:TC R b c):TC R a c:=by
 induction k with
 | one k=>exact .step (.one h) k
 | step _ k2 ih=>exact .step ih k2
theorem TC.trans{R:Nat->Nat->Prop}{a b c:Nat}(h:TC R a b)(k:TC R b c):TC R a c:=by
 induction k with
 | one k=>exact .step h k
 | step _ k2 ih=>exact .step ih k2
section
variable{n:Nat}{a:RelD}
def zhn (n:Nat) (r:RelD) (i j:Nat):Prop:=i<n/\zh r i j=true
theorem zpd(h:RelOk n a):∀i j,zhn n a i j->i<n/\j<n:=fun i j b=>⟨b.1,(h.bit (by have:=h.le;have:=b.1;omega) b.2).2⟩
open Classical in
theorem acy_tc(h:RelOk n a):zaU a=true↔∀i,¬TC (zhn n a) i i:=by
 have ac:=h.le;rw[zhS h];have bk:∀i,i<64->∀j,((z6 a).to i).testBit j=(decide (j<n)&&zh a j i):=fun i p j=>zaM h p;have x:∀{i j},TC (zhn n a) i j->i<n/\j<n:=fun{i j} ht=>by
  induction ht with
  | one k=>exact zpd h _ _ k
  | step _ k ih=>exact⟨ih.1,(zpd h _ _ k).2⟩
 constructor
 ·intro hf i p;obtain⟨S,hS⟩:=nm (zgp n fun v=>decide (TC (zhn n a) i v/\TC (zhn n a) v i));have r:∀v,S.testBit v=true↔v<n/\TC (zhn n a) i v/\TC (zhn n a) v i:=fun v=>by
   rw[hS,zhC,bAT,dE,dE]
  have d:=(r i).2 ⟨(x p).1,p,p⟩;obtain⟨v,c,h0⟩:=hf S (fun e=>by rw[e,QA] at d;cases d) (Kc fun j=>by
   rw[QY]
   cases hb:S.testBit j with
   | false=>rfl
   | true =>
    have:=((r j).1 hb).1;rw[zbU (by omega) (by omega) (by omega)];rw[Uv];exact Up (by omega))
  have o:=jf.1 c;obtain⟨ab,t1,t2⟩:=(r v).1 o.2;have no:∀u,zhn n a u v->S.testBit u=true->False:=fun u b aa=>by
   have:=Gi (fun s=>s.testBit u) h0;simp only[QY,QA] at this;rw[aa,bk v o.1,Up b.1,b.2] at this
   cases this
  cases t1 with
  | one k=>exact no i k d
  | step t k =>
   rename_i u;exact no u k ((r u).2 ⟨k.1,t,.first k t2⟩)
 ·intro y S hS he;refine Jo fun hn=>?_;have f:∀v,v∈els S->∃u,u∈els S/\zhn n a u v:=fun v c=>by
   have h1:¬(z6 a).to v&&&S=0:=fun e=>hn ⟨v,c,e⟩;obtain⟨u,b⟩:=zjj h1;rw[QY,bAT,bk v (jf.1 c).1,bAT,dE] at b;exact⟨u,jf.2 ⟨by omega,b.2⟩,b.1.1,b.1.2⟩
  have l:∀m v,v∈els S->zeP (fun u=>decide (TC (zhn n a) u v)) n=m->False:=fun m=>by
   induction m using Nat.strongRecOn with
   | _ m ih =>
    intro v c hm;obtain⟨u,b,g⟩:=f v c;refine ih (zeP (fun w=>decide (TC (zhn n a) w u)) n) ?_ u b rfl;rw[<- hm];exact zjf (j:=u) (fun w _ hw=>Up (.step (dT hw) g)) g.1 (Ue (y u)) (Up (.one g))
  obtain⟨v,c⟩:=zjj hS;have q:v<64:=by
   have h2:=c;rw[<- he,QY,bAT] at h2;refine Qw fun z=>?_;rw[JF (nL (za7 n) (Ke (by decide) z))] at h2
   cases h2.2
  exact l _ v (jf.2 ⟨q,c⟩) rfl
end
section
variable{x:ExD}
def zt2 (x:ExD):RelD:=(zav (zav x.po x.rf).1 (zav x.co (frM x)).1).1
theorem zt1(h:XOk x):RelOk x.ev.length (zt2 x):=(h.po.union h.rf).union (h.co.union (zeb h))
theorem zdp(h:XOk x){i j:Nat}(hi:i<x.ev.length):zh (zt2 x) i j=(zh x.po i j||zh x.rf i j||(zh x.co i j||zh (frM x) i j)):=by
 unfold zt2;rw[zet (h.po.union h.rf) (h.co.union (zeb h)) hi,zet h.po h.rf hi,zet h.co (zeb h) hi]
end
theorem zpV(L:Nat)(es:List Ev)(t:Int)(n:Nat):∀(vs:List UInt8) (i:Nat),i+vs.length=L->zct L i (qG i vs++es) t n=zct L L es t n
 | [],i,h=>by
  have:i=L:=by simpa using h
  rw[this];rfl
 | v::vs,i,h=>by
  rw[Qp] at h;show zct L i (⟨-1,2,UInt8.ofNat i,v,0,0,0⟩::(qG (i+1) vs++es)) t n=_;have step:zct L i (⟨-1,2,UInt8.ofNat i,v,0,0,0⟩::(qG (i+1) vs++es)) t n=zct L (i+1) (qG (i+1) vs++es) t n:=by
   conv=>lhs;unfold zct
   rw[Gn (by omega),Gn rfl]
  rw[step];exact zpV L es t n vs (i+1) (by omega)
theorem zpU{L k:Nat}(hk:k<4)(qM:List Ev):∀(es:List Ev) (i j:Nat) (t:Int) (n:Nat),L<=i->(∀q e,es[q]?=some e->zwb L (j+q) e)->j+es.length<=24->0<=t->((t=k/\n=j)\/(j=0/\t<k)) ->
  ∃(t':Int) (n':Nat),zct L i (jH k es++qM) t n=zct L (i+es.length) qM t' n'/\0<=t'/\((t'=k/\n'=j+es.length)\/(j=0/\es=[]/\t'<k))
 | [],i,j,t,n,hi,he,hj,h0,hs=>⟨t,n,rfl,h0,by
   rcases hs with⟨a,b⟩ | ⟨a,b⟩
   ·exact .inl ⟨a,b⟩
   ·exact .inr ⟨a,rfl,b⟩⟩
 | e::es,i,j,t,n,hi,he,hj,h0,hs=>by
  rw[Qp] at hj;obtain⟨_,hp,hkd⟩:=he 0 e rfl;rw[UK] at hp;have hpn:e.p.toNat=j:=by rw[hp,KH];omega
  have htk:t<=k:=by rcases hs with⟨a,_⟩ | ⟨_,b⟩ <;> omega
  have ht':(if t<(k:Int) then(k:Int) else t)=k:=by split <;> omega
  have hn':(if t<(k:Int) then 0 else n)=j:=by
   rcases hs with⟨a,b⟩ | ⟨a,b⟩
   ·rw[Gm (by omega)];exact b
   ·rw[Gn b];exact a.symm
  obtain⟨t2,n2,h1,h2,h3⟩:=zpU (L:=L) hk qM es (i+1) (j+1) k (j+1) (by omega) (fun q d hq=>by
   have h5:=he (q+1) d hq;have e5:j+(q+1)=j+1+q:=by omega
   rw[e5] at h5;exact h5) (by omega) (by omega) (.inl ⟨rfl,rfl⟩)
  refine⟨t2,n2,?_,h2,?_⟩
  ·rw[Qp,show i+(es.length+1)=i+1+es.length by omega,<- h1];show zct L i ({ e with th:=(k:Int) }::(jH k es++qM)) t n=_;have step:zct L i ({ e with th:=(k:Int) }::(jH k es++qM)) t n=if i<L then(if({ e with th:=(k:Int) }:Ev)=⟨-1,2,UInt8.ofNat i,e.v,0,0,0⟩ then zct L (i+1) (jH k es++qM) t n else false) else if(k:Int)<t\/4<=(k:Int) then false else
     (if e.p.toNat=(if t<(k:Int) then 0 else n) then
      (if e.k=1\/e.k=2 then(if e.l.toNat<L then zct L (i+1) (jH k es++qM) (if t<(k:Int) then(k:Int) else t) ((if t<(k:Int) then 0 else n)+1) else false) else if e.k=3 then(if e.l=0/\e.v=0 then zct L (i+1) (jH k es++qM) (if t<(k:Int) then(k:Int) else t) ((if t<(k:Int) then 0 else n)+1) else false) else false)
      else false):=rfl
   rw[step,Gm (by omega),Gm (by omega),hn',Gn hpn,ht'];rcases hkd with⟨a,b⟩ | ⟨a,b⟩
   ·rw[Gn a,Gn b]
   ·rw[Gm (by rw[a];decide),Gn a,Gn b]
  ·rcases h3 with⟨a,b⟩ | ⟨a,_⟩
   ·exact .inl ⟨a,by rw[Qp,b];omega⟩
   ·omega
theorem zi8{L:Nat}:∀(Ps:List PathD) (k i:Nat) (t:Int) (n:Nat),L<=i->(∀P∈Ps,PathW L P)->k+Ps.length<=4->0<=t->(t<k\/(t=k/\n=0))->zct L i (zbR k Ps) t n=true
 | [],k,i,t,n,_,_,_,_,_=>rfl
 | P::Ps,k,i,t,n,hi,hP,hk,h0,hs=>by
  rw[Qp] at hk;have c:=hP P KA;obtain⟨h,g,l,f,j⟩:=zpU (L:=L) (k:=k) (by omega) (zbR (k+1) Ps) P.ev i 0 t n hi (fun q e o=>by rw[UQ];exact c.ev q e o) (by have:=c.n;omega) h0 (by
   rcases hs with a | ⟨a,b⟩
   ·exact .inr ⟨rfl,a⟩
   ·exact .inl ⟨a,b⟩)
  show zct L i (jH k P.ev++zbR (k+1) Ps) t n=true;rw[l];refine zi8 Ps (k+1) _ h g (by omega) (fun Q d=>hP Q (JV _ d)) (by omega) f (.inl ?_);rcases j with⟨a,_⟩ | ⟨_,_,a⟩ <;> omega
section
variable{init:List UInt8}{Ps:List PathD}{m:MixD}{ds:List Nat}
theorem ChoiceW.evs(h:ChoiceW init Ps m):jE m.base.ev init.length=true:=by
 unfold jE;rw[h.base,zbO,zpV init.length _ 0 0 init 0 (UQ _)];exact zi8 Ps 0 _ 0 0 (UW _) h.P (by have:=h.p4;omega) (Int.le_refl _) (.inr ⟨rfl,rfl⟩)
theorem zmh(all:List Ev)(W:List (List Nat)):∀(es:List Ev) (i j:Nat) (e:Ev),es[j]?=some e->e.k=1->∃(t:Nat) (s:List Nat),(zcl all W i es)[t]?=some (i+j,s)
 | [],i,j,e,h,_=>by simp at h
 | d::es,i,0,e,h,hk=>by
  have b:d=e:=by simpa using h
  subst b;unfold zcl;rw[Gn hk];exact⟨0,_,rfl⟩
 | d::es,i,j+1,e,h,hk=>by
  obtain⟨t,s,a⟩:=zmh all W es (i+1) j e (by simpa using h) hk;rw[show i+1+j=i+(j+1) by omega] at a;unfold zcl
  split
  ·exact⟨t+1,s,a⟩
  ·exact⟨t,s,a⟩
theorem zpe(all:List Ev)(W:List (List Nat)):∀(es:List Ev) (i:Nat),(zcl all W i es).Pairwise (fun a b=>a.1<b.1)/\∀r∈zcl all W i es,i<=r.1
 | [],i=>⟨.nil,fun r h=>by cases h⟩
 | d::es,i=>by
  obtain⟨g,f⟩:=zpe all W es (i+1);unfold zcl
  split
  ·refine⟨List.pairwise_cons.2 ⟨fun r c=>?_,g⟩,fun r c=>?_⟩
   ·have:=f r c;show i<r.1;omega
   ·rcases UA.1 c with e | e
    ·rw[e];exact UW _
    ·have:=f r e;omega
  ·exact⟨g,fun r c=>by have:=f r c;omega⟩
theorem ChoiceW.rs_one(h:ChoiceW init Ps m){t t':Nat}{r r':Nat×List Nat}(h1:m.rs[t]?=some r)(h2:m.rs[t']?=some r')(he:r.1=r'.1):t=t':=by
 have c:m.rs.Pairwise (fun a b=>a.1<b.1):=by rw[h.m];exact(zpe _ _ _ _).1
 obtain⟨f,i⟩:=Jr.1 h1;obtain⟨e,d⟩:=Jr.1 h2;rcases Nat.lt_trichotomy t t' with g | g | g
 ·have:=List.pairwise_iff_getElem.1 c t t' f e g;rw[i,d] at this;omega
 ·exact g
 ·have:=List.pairwise_iff_getElem.1 c t' t e f g;rw[i,d] at this;omega
theorem ChoiceW.rf(h:ChoiceW init Ps m)(hd:ds∈qt (zM m)):za2 (zG m ds)=true:=by
 have o:=h.rels hd;have ac:∀{t r},m.rs[t]?=some r->ds.getD t 0<r.2.length:=fun{t r} o=>by
  obtain⟨n,g⟩:=za6 hd;have c:=(Jr.1 o).1;have hs:(zM m)[t]?=some r.2.length:=by
   unfold zM;rw[Jq (by rw[QJ];exact c),KT,o];rfl
  have d:t<ds.length:=by rw[n];exact(Jr.1 hs).1
  rw[gDe,gE d];exact g _ _ _ hs (gE d)
 refine(zn1 o.rf).2 ⟨fun a b ha p f=>?_,fun b p ab=>⟨?_,fun i j hi hj n g=>?_⟩⟩
 ·obtain⟨t,r,n,g,h3,h4⟩:=(h.rfb hd).1 f;obtain⟨e,l,q,g3⟩:=h.rs (JW n);have aa:e∈(zak init Ps).ev:=by rw[<- h.base];exact JW l
  have y:=zbT h.i6 h.P aa (.inl q);rw[g3,h.wr.2 _ y] at g;obtain⟨m1,z⟩:=QO.1 g;obtain⟨a1,a2,a3⟩:=zb8.1 m1;have u:evA (zG m ds) b=e:=by
   show m.base.ev.getD b ev0=e;rw[h4,gDe,l];rfl
  have z:(evA m.base a).v=e.v:=dT z;refine⟨a2,?_,?_,?_⟩
  ·unfold isR;rw[u];exact Up q
  ·rw[u];exact Ud.1 a3
  ·rw[u];exact z
 ·have p:b<m.base.ev.length:=p;have w:m.base.ev[b]?=some (evA m.base b):=by
   unfold evA;rw[gDe,gE p];rfl
  have hk:(evA m.base b).k=1:=dT ab;obtain⟨t,s,c⟩:=zmh m.base.ev m.wr m.base.ev 0 b _ w hk;have c:m.rs[t]?=some (0+b,s):=by
   have e:m.rs=zcl m.base.ev m.wr 0 m.base.ev:=by rw[h.m];rfl
   rw[e];exact c
  rw[UQ] at c;have hlt:=ac c;have e2:s[ds.getD t 0]?=some (s[ds.getD t 0]'hlt):=gE hlt;have f:zh (zG m ds).rf (s[ds.getD t 0]'hlt) b=true:=(h.rfb hd).2 ⟨t,(b,s),c,JW e2,e2,rfl⟩;exact⟨_,(h.src (JW c)).2.2 _ (JW e2),f⟩
 ·obtain⟨t,r,l,q,g3,g4⟩:=(h.rfb hd).1 n;obtain⟨t',r',x,k2,k3,k4⟩:=(h.rfb hd).1 g;have et:=h.rs_one l x (by omega);subst et;rw[l] at x;obtain rfl:=Uc x;rw[g3] at k3;exact Uc k3
theorem ztx{sel:PathD->List (Nat×Nat)}:∀(Ps:List PathD) (k b i j:Nat),zer sel b Ps i j->∃P∈Ps,∃p∈sel P,∃(o t:Nat),i=b+o+p.1/\j=b+o+p.2/\∀q e,P.ev[q]?=some e->(zbR k Ps)[o+q]?=some { e with th:=t }
 | [],_,_,_,_,h=>h.elim
 | P::Ps,k,b,i,j,h=>by
  rcases h with⟨p,c,f,d⟩ | h
  ·refine⟨P,KA,p,c,0,k,f,d,fun q e a=>?_⟩;have r:=(Jr.1 a).1;show(jH k P.ev++zbR (k+1) Ps)[0+q]?=_;rw[UQ,Jq (by unfold jH;rw[QJ];exact r)];unfold jH;rw[KT,a];rfl
  ·obtain⟨Q,g,p,c,o,t,f,d,n⟩:=ztx Ps (k+1) _ _ _ h;refine⟨Q,JV _ g,p,c,P.ev.length+o,t,by omega,by omega,fun q e a=>?_⟩;show(jH k P.ev++zbR (k+1) Ps)[P.ev.length+o+q]?=_;have l:(jH k P.ev).length=P.ev.length:=by unfold jH;rw[QJ]
   rw[Jm (by omega),l,show P.ev.length+o+q-P.ev.length=o+q by omega];exact n q e a
theorem ChoiceW.dep(h:ChoiceW init Ps m)(hd:ds∈qt (zM m)):zaY (zG m ds)=true:=by
 have hr:=h.rels hd;have ab:=zdj h (ds:=ds);obtain⟨d1,d2,d3⟩:=zgX (init:=init) h.P;have il:(qG 0 init).length=init.length:=z7 _ _;have g:∀{r:PathD->List (Nat×Nat)} {i j:Nat},zer r init.length Ps i j->∃P∈Ps,∃p∈r P,∃(o t:Nat),i=init.length+o+p.1/\j=init.length+o+p.2/\∀q e,P.ev[q]?=some e->evA (zG m ds) (init.length+o+q)={ e with th:=t }/\(zG m ds).ev[init.length+o+q]?=some { e with th:=t }:=fun{r i j} hD=>by
  obtain⟨P,s,p,v,o,t,h1,x,n⟩:=ztx Ps 0 _ _ _ hD;refine⟨P,s,p,v,o,t,h1,x,fun q e he=>?_⟩;have e1:(zG m ds).ev[init.length+o+q]?=some { e with th:=t }:=by
   show m.base.ev[_]?=_;rw[h.base,zbO,Jm (by omega),il,show init.length+o+q-init.length=o+q by omega];exact n q e he
  refine⟨?_,e1⟩;unfold evA;rw[gDe,e1];rfl
 have po:∀{i j t:Nat} {a b:Ev},(zG m ds).ev[i]?=some { a with th:=t }->(zG m ds).ev[j]?=some { b with th:=t }->i<j->zh (zG m ds).po i j=true:=fun{i j t a b} h1 x ac=>by
  have e:(zG m ds).po=poR (zG m ds).ev:=by
   show m.base.po=poR m.base.ev;rw[h.base];rfl
  rw[e];refine(zpl _).2 ⟨_,h1,?_,ac,(Jr.1 x).1,?_⟩
  ·show((t:Nat):Int) ≠ -1;omega
  ·rw[gDe,x];rfl
 have u:∀{i j},zh (zG m ds).dt i j=true->isR (zG m ds) i=true/\isW (zG m ds) j=true/\zh (zG m ds).po i j=true:=fun{i j} f=>by
  have f:zh m.base.dt i j=true:=f;rw[h.base] at f;obtain⟨P,s,p,v,o,t,rfl,rfl,n⟩:=g ((d1 _ _).1 f);obtain⟨a,b,g1,z,g3,g4,g5⟩:=(h.P P s).dt p v;obtain⟨w,y⟩:=n _ _ g1;obtain⟨b1,b2⟩:=n _ _ z;refine⟨?_,?_,po y b2 (by omega)⟩
  ·unfold isR;rw[w];exact Up g4
  ·unfold isW;rw[b1];exact Up g5
 have aa:∀{i j},zh (zG m ds).ct i j=true->isR (zG m ds) i=true/\zh (zG m ds).po i j=true:=fun{i j} f=>by
  have f:zh m.base.ct i j=true:=f;rw[h.base] at f;obtain⟨P,s,p,v,o,t,rfl,rfl,n⟩:=g ((d2 _ _).1 f);obtain⟨a,b,g1,z,g3,g4⟩:=(h.P P s).ct p v;obtain⟨w,y⟩:=n _ _ g1;obtain⟨b1,b2⟩:=n _ _ z;refine⟨?_,po y b2 (by omega)⟩;unfold isR;rw[w];exact Up g4
 have d:∀{i j},zh (zG m ds).rm i j=true->isR (zG m ds) i=true/\isW (zG m ds) j=true/\zh (zG m ds).po i j=true/\j=i+1/\(evA (zG m ds) j).l=(evA (zG m ds) i).l:=fun{i j} f=>by
  have f:zh m.base.rm i j=true:=f;rw[h.base] at f;obtain⟨P,s,p,v,o,t,rfl,rfl,n⟩:=g ((d3 _ _).1 f);obtain⟨a,b,g1,z,g3,g4,g5,g6⟩:=(h.P P s).rm p v;obtain⟨w,y⟩:=n _ _ g1;obtain⟨b1,b2⟩:=n _ _ z;refine⟨?_,?_,po y b2 (by omega),by omega,?_⟩
  ·unfold isR;rw[w];exact Up g4
  ·unfold isW;rw[b1];exact Up g5
  ·rw[w,b1];exact g6.symm
 unfold zaY;have hs:=zm4 ab hr.po hr.dt hr.ct hr.rm (zG m ds).ev.length 0 0 (UQ _);rw[Uj] at hs;refine hs.2 ⟨fun k _ hk=>⟨fun j c=>?_,fun j c=>?_,fun i j hi c=>?_,fun j c=>?_⟩,fun k j _ _ _=>QA _,fun k k' j _ ad _ h1 x=>?_⟩
 ·rcases c with c | c
  ·exact(u c).2.1
  ·exact(d c).2.1
 ·rcases c with c | c | c
  ·exact⟨(u c).1,(u c).2.2⟩
  ·exact aa c
  ·exact⟨(d c).1,(d c).2.2.1⟩
 ·have:=(d hi).2.2.2.1;have:=(d c).2.2.2.1;omega
 ·exact(d c).2.2.2.2
 ·have:=(d h1).2.2.2.1;have:=(d x).2.2.2.1;omega
theorem ChoiceW.right(h:ChoiceW init Ps m)(hd:ds∈qt (zM m)):j0 (zG m ds)=true:=by
 have d:qz (zG m ds).ev=init.length:=h.inits;have b:=h.rels hd;unfold j0;rw[d];simp only[bAT];refine⟨Up (zdj h),Up h.i1,Up h.i6,h.evs,?_,?_,h.rf hd,h.co hd,h.dep hd⟩
 ·unfold zbg;rw[Qg];have a:∀{r:RelD},RelOk (zG m ds).ev.length r->(decide (r.n=(zG m ds).ev.length)&&okR r)=true:=fun{r} h=>by
   rw[bAT];exact⟨Up h.n,h.ok⟩
  intro r c;simp only[UA,Qs,Gk] at c;rcases c with rfl | rfl | rfl | rfl | rfl | rfl
  ·exact a b.po
  ·exact a b.rf
  ·exact a b.co
  ·exact a b.dt
  ·exact a b.ct
  ·exact a b.rm
 ·have e:(zG m ds).po=poR (zG m ds).ev:=by
   show m.base.po=poR m.base.ev;rw[h.base];rfl
  rw[e];exact zig _
end
def qq (R:RunD):List Ev:=(List.range R.many).map R.ev
theorem zaX(R:RunD)(k l v m:UInt8)(d:Nat):qq (jF R k l v m d)=qq R++[⟨0,k,l,v,m,UInt8.ofNat R.pc,UInt8.ofNat R.many⟩]:=by
 show(List.range (R.many+1)).map (upd R.ev R.many _)=_;rw[QS,QM,List.map_singleton,zN];congr 1;refine Kl fun i a=>?_;have:=Ul.1 a;exact qx _ _ (by omega)
def zho (t:Nat) (l:List Ev):List Ev:=(l.filter fun e=>decide (e.th=(t:Int))).map fun e=>{ e with th:=0 }
theorem zps(t:Nat)(a b:List Ev):zho t (a++b)=zho t a++zho t b:=by
 unfold zho;rw[Kw,QM]
theorem zmq{t:Nat}{l:List Ev}(h:∀e∈l,e.th≠(t:Int)):zho t l=[]:=by
 unfold zho;rw[JB.2 fun e a=>by simpa using h e a];rfl
theorem zwV{t k:Nat}{l:List Ev}(h:∀e∈l,e.th=0):zho t (jH k l)=if k=t then l else[]:=by
 by_cases e:k=t
 ·subst e;rw[Gn rfl];unfold zho jH;rw[List.filter_eq_self.2 fun a c=>by
   obtain⟨b,_,rfl⟩:=UI.1 c;exact Up rfl,UF]
  conv=>rhs;rw[<- List.map_id l]
  refine Kl fun a c=>?_;have:=h a c
  cases a
  simp_all
 ·rw[Gm e];refine zmq fun a c=>?_;obtain⟨b,_,rfl⟩:=UI.1 c;show((k:Nat):Int)≠(t:Nat);omega
theorem zmr(t:Nat):∀(Ps:List PathD) (k:Nat),(∀P∈Ps,∀e∈P.ev,e.th=0)->zho t (zbR k Ps)=if k<=t then(match Ps[t-k]? with | some P=>P.ev | none=>[]) else[]
 | [],k,_=>by
  have e:zho t (zbR k [])=[]:=rfl;rw[e]
  split <;> simp
 | P::Ps,k,h=>by
  show zho t (jH k P.ev++zbR (k+1) Ps)=_;rw[zps,zwV (h P KA),zmr t Ps (k+1) fun Q b=>h Q (JV _ b)];by_cases e:k=t
  ·subst e;rw[Gn rfl,Gm (by omega),Gn (UW _),UN,QG];rfl
  ·rw[Gm e,QQ];by_cases a:k<=t
   ·rw[Gn (by omega),Gn a];obtain⟨d,c⟩:∃d,t-k=d+1:=⟨t-k-1,by omega⟩;rw[c,show t-(k+1)=d by omega,Ju]
   ·rw[Gm (by omega),Gm a]
theorem zmf:∀(Ps:List PathD) (k:Nat) (x:ExD) (i:Nat),(asR k Ps x).regs i=if k<=i/8 then(match Ps[i/8-k]? with | some P=>P.regs (i%8) | none=>x.regs i) else x.regs i
 | [],k,x,i=>by
  show x.regs i=_
  split <;> simp
 | P::Ps,k,x,i=>by
  show(asR (k+1) Ps (zbY x k P)).regs i=_;rw[zmf Ps (k+1)];have e:(zbY x k P).regs i=if i/8=k then P.regs (i%8) else x.regs i:=rfl
  rw[e];by_cases h:i/8=k
  ·rw[Gm (by omega),Gn h,Gn (by omega),h,UN];rfl
  ·rw[Gm h];by_cases a:k<=i/8
   ·rw[Gn (by omega),Gn a];obtain⟨d,b⟩:∃d,i/8-k=d+1:=⟨i/8-k-1,by omega⟩;rw[b,show i/8-(k+1)=d by omega,Ju]
   ·rw[Gm (by omega),Gm a]
theorem zhF:∀(Ts:List (List PathD)) (ds:List Nat),ds.length=Ts.length->(∀(i n d:Nat),(Ts.map List.length)[i]?=some n->ds[i]?=some d->d<n) ->
  (js Ts ds).length=Ts.length/\∀(t:Nat) (T:List PathD) (d:Nat),Ts[t]?=some T->ds[t]?=some d->(js Ts ds)[t]?=T[d]?
 | [],[],_,_=>⟨rfl,fun t T d h=>by simp at h⟩
 | [],d::ds,h,_=>by cases h
 | T::Ts,[],h,_=>by cases h
 | T::Ts,d::ds,h,hb=>by
  have j:d<T.length:=hb 0 T.length d rfl rfl;obtain⟨l,k⟩:=zhF Ts ds (by simpa using h) fun i n g a b=>hb (i+1) n g a b;have e:js (T::Ts) (d::ds)=T[d]::js Ts ds:=by
   show(match T[d]? with | some P=>[P] | none=>[])++js Ts ds=_;rw[gE j];rfl
  rw[e];refine⟨by rw[Qp,Qp,l],fun t U g f c=>?_⟩
  cases t with
  | zero =>
   have f:=Uc f;have c:=Uc c;subst f c;exact(gE j).symm
  | succ t =>
   rw[Ju];exact k t U g f c
section
variable{p:Prg}{V:List UInt8}
theorem zkv(hO:OkG p){m:MixD}{ds:List Nat}(hds:ds∈qt ((p.threads.map (zJ V)).map List.length))(hm:ziI p.init (js (p.threads.map (zJ V)) ds)=some m) :
  ChoiceW p.init (js (p.threads.map (zJ V)) ds) m/\ds.length=p.threads.length/\∀(t:Nat) (l:List InsD),p.threads[t]?=some l->∃d,ds[t]?=some d/\∃R,(qB l V)[d]?=some R/\(js (p.threads.map (zJ V)) ds)[t]?=some (jN R)/\zho t m.base.ev=qq R/\∀j,j<8->m.base.regs (8*t+j)=R.regs j:=by
 obtain⟨b,g⟩:=za6 hds;rw[QJ,QJ] at b;obtain⟨y,x⟩:=zhF (p.threads.map (zJ V)) ds (by rw[QJ];exact b) g;unfold ziI at hm
 split at hm
 case isFalse=>cases hm
 rename_i n;have hm:=Uc hm;have v:∀P∈js (p.threads.map (zJ V)) ds,PathW p.init.length P:=fun P a=>by
  obtain⟨T,f,g⟩:=zgx _ _ _ a;obtain⟨l,c,rfl⟩:=UI.1 f;exact zis hO c g
 have k:ChoiceW p.init (js (p.threads.map (zJ V)) ds) m:=⟨hO.i1,hO.i6,by
  rw[y,QJ];have:=hO.t4;omega,v,n,hm.symm⟩
 refine⟨k,b,fun t l c=>?_⟩;have w:t<ds.length:=by rw[b];exact(Jr.1 c).1
 have f:(p.threads.map (zJ V))[t]?=some (zJ V l):=by rw[KT,c];rfl
 have o:ds[t]?=some ds[t]:=gE w;have hlt:ds[t]<(qB l V).length:=by
  have:=g t (zJ V l).length ds[t] (by rw[KT,f];rfl) o;have e:(zJ V l).length=(qB l V).length:=QJ ..;omega
 have u:(qB l V)[ds[t]]?=some (qB l V)[ds[t]]:=gE hlt;have a:(js (p.threads.map (zJ V)) ds)[t]?=some (jN (qB l V)[ds[t]]):=by
  rw[x t _ _ f o];show((qB l V).map jN)[ds[t]]?=_;rw[KT,u];rfl
 have r:∀P∈js (p.threads.map (zJ V)) ds,∀e∈P.ev,e.th=0:=fun P a e h=>by
  obtain⟨q,hq⟩:=List.mem_iff_getElem?.1 h;exact((v P a).ev q e hq).1
 refine⟨ds[t],o,(qB l V)[ds[t]],u,a,?_,fun j hj=>?_⟩
 ·rw[k.base,zbO,zps,zmr t _ 0 r,Gn (UZ _),UO,a,zmq,QQ]
  ·rfl
  ·intro e h;obtain⟨i,s,rfl⟩:=Kj h;rw[z7] at s;have:=zbj p.init 0 s;rw[gE (by rw[z7];exact s)] at this;rw[Uc this];show(-1:Int)≠(t:Nat);omega
 ·have e:m.base.regs=(asR 0 (js (p.threads.map (zJ V)) ds) { ex0 (zb1 p.init.length (js (p.threads.map (zJ V)) ds)) with ev:=qG 0 p.init }).regs:=by rw[k.base];rfl
  have e1:(8*t+j)/8=t:=by omega
  have z:(8*t+j)%8=j:=by omega
  rw[e,zmf,e1,z,Gn (UZ _),UO,a];rfl
end
def zx2 (x y:ExD):Bool:=(List.range 32).all (fun i=>decide (x.regs i=y.regs i))&&(List.range 6).all (fun i=>decide (x.mem i=y.mem i))
def zme (x y:ExD):Bool:=jy x.po y.po&&(jy x.rf y.rf&&(jy x.co y.co&&(jy x.dt y.dt&&(jy x.ct y.ct&&(jy x.rm y.rm&&zx2 x y)))))
def zsj (x y:ExD):Bool:=decide (x.ev.length=y.ev.length)&&((List.range x.ev.length).all (fun i=>decide (evA x i=evA y i))&&zme x y)
theorem zkj(before:Nat->Nat):∀(n left:Nat) (l:List Nat),left<2^64->(zaK before n left l).Nodup
 | 0,left,l,hl=>by
  unfold zaK
  split
  ·exact List.pairwise_singleton ..
  ·exact .nil
 | n+1,left,l,hl=>by
  unfold zaK
  split
  ·exact List.pairwise_singleton ..
  ·show List.Pairwise _ _;rw[List.pairwise_flatMap];refine⟨fun a i=>?_,List.Pairwise.imp_of_mem ?_ (zeG left)⟩
   ·split
    ·exact zkj before n _ _ (zay hl)
    ·exact .nil
   ·intro a b i j c x f y d e
    split at f
    ·split at d
     ·obtain⟨s,g,_⟩:=zfU before n _ _ x (zay hl) f;obtain⟨t,h,_⟩:=zfU before n _ _ y (zay hl) d;rw[g,h,KN,KN] at e;have:=List.append_cancel_left e;simp only[List.singleton_append,QH] at this;exact c this.1
     ·cases d
    ·cases f
theorem zte{w:List Nat}(hw:w.Nodup){a b:Nat}(ha:a<w.length)(hb:b<w.length)(h:w.getD a 0=w.getD b 0):a=b:=by
 rw[gDe,gDe,gE ha,gE hb] at h;exact(List.getElem_inj hw).1 h
theorem zg6{w:List Nat}(hw:w.Nodup):∀{a b:List Nat},(∀i∈a,i<w.length)->(∀i∈b,i<w.length)->a.map (fun k=>w.getD k 0)=b.map (fun k=>w.getD k 0)->a=b
 | [],[],_,_,_=>rfl
 | [],y::b,_,_,h=>by cases h
 | x::a,[],_,_,h=>by cases h
 | x::a,y::b,ha,hb,h=>by
  rw[Uz,Uz,QH] at h;rw[zte hw (ha x KA) (hb y KA) h.1,zg6 hw (fun i c=>ha i (JV _ c)) (fun i c=>hb i (JV _ c)) h.2]
theorem zmj{w:List Nat}(hw:w.Nodup)(h1:1<=w.length)(hn:w.length<=48):(zO w).Nodup:=by
 unfold zO;dsimp only
 split
 ·refine List.pairwise_map.2 (List.Pairwise.imp_of_mem (R:=fun a b=>a≠b) ?_ ?_)
  ·intro a b f g d e;have h:=(zix h1 hn f).1;have j:=(zix h1 hn g).1;exact d (zg6 hw (fun i c=>Ul.1 (h.subset c)) (fun i c=>Ul.1 (j.subset c)) e)
  ·unfold zbW
   split
   ·exact zkj _ _ _ _ (zeM _)
   ·exact .nil
 ·exact .nil
theorem zn5(all:List Ev)(W:List (List Nat)):∀(es:List Ev) (i:Nat),(zcl all W i es).Pairwise fun a b=>a.1<b.1
 | [],i => .nil
 | e::es,i=>by
  unfold zcl
  split
  ·refine List.pairwise_cons.2 ⟨fun r c=>?_,zn5 all W es (i+1)⟩;obtain⟨j,d,_,_,h⟩:=zew all W es (i+1) r c;rw[h];show i<i+1+j;omega
  ·exact zn5 all W es (i+1)
theorem zpr{α:Type}{key:α->Nat}:∀{l:List α},l.Pairwise (fun a b=>key a<key b)->∀{s t:Nat} {a b:α},l[s]?=some a->l[t]?=some b->key a=key b->s=t
 | [],_,s,t,a,b,h,_,_=>by simp at h
 | x::l,h,0,0,a,b,_,_,_=>rfl
 | x::l,h,0,t+1,a,b,c,d,e=>by
  have c:=Uc c;have:=(List.pairwise_cons.1 h).1 b (JW d);rw[c] at this;omega
 | x::l,h,s+1,0,a,b,c,d,e=>by
  have d:=Uc d;have:=(List.pairwise_cons.1 h).1 a (JW c);rw[d] at this;omega
 | x::l,h,s+1,t+1,a,b,c,d,e=>by rw [zpr (List.pairwise_cons.1 h).2 c d e]
theorem zsq{a b:RelD}(h:jy a b=true){i:Nat}(hi:i<48):a.to i=b.to i:=by
 unfold jy at h;rw[bAT,Qg] at h;exact dT (h.2 i (Ul.2 hi))
theorem znR{x y:ExD}(h:zsj x y=true):x.ev=y.ev/\jy x.rf y.rf=true/\jy x.co y.co=true:=by
 unfold zsj zme at h;simp only[bAT] at h;obtain⟨c,f,_,e,d,_⟩:=h;refine⟨?_,e,d⟩;have c:=dT c;refine List.ext_getElem c fun i a b=>?_;have:=dT (Qg.1 f i (Ul.2 a));unfold evA at this;rw[gDe,gDe,gE a,gE b] at this;exact this
section
variable{init:List UInt8}{Ps:List PathD}{m:MixD}{ds es:List Nat}
theorem ChoiceW.dig_r(h:ChoiceW init Ps m)(hd:ds∈qt (zM m)){t:Nat}{r:Nat×List Nat}(hr:m.rs[t]?=some r):∃d,ds[t]?=some d/\d<r.2.length:=by
 obtain⟨f,e⟩:=za6 hd;have c:=(Jr.1 hr).1;have b:(zM m)[t]?=some r.2.length:=by
  unfold zM;rw[Jq (by rw[QJ];exact c),KT,hr];rfl
 have a:t<ds.length:=by rw[f];exact(Jr.1 b).1
 exact⟨ds[t],gE a,e _ _ _ b (gE a)⟩
theorem ChoiceW.wr_nodup(h:ChoiceW init Ps m)(l:Nat):(m.wr.getD l []).Nodup:=by
 by_cases a:l<init.length
 ·rw[h.wr.2 l a];exact List.nodup_range.filter _
 ·rw[gDe,JI (by rw[h.wr.1];omega)];exact .nil
theorem ChoiceW.rf_dig(h:ChoiceW init Ps m)(hd:ds∈qt (zM m))(he:es∈qt (zM m))(hs:jy (zG m ds).rf (zG m es).rf=true){t:Nat}(ht:t<m.rs.length):ds[t]?=es[t]?:=by
 have c:m.rs[t]?=some m.rs[t]:=gE ht;obtain⟨d,p,l⟩:=h.dig_r hd c;obtain⟨e,q,x⟩:=h.dig_r he c;have s:m.rs[t].2.Nodup:=by
  obtain⟨_,_,_,j⟩:=h.rs (gM ht);rw[j];exact(h.wr_nodup _).filter _
 have w:m.rs[t].2[d]?=some m.rs[t].2[d]:=gE l;have r:zh (zG m ds).rf m.rs[t].2[d] m.rs[t].1=true:=(h.rfb hd).2 ⟨t,_,c,gM l,by rw[gDe,p];exact w,rfl⟩;have g:m.rs[t].2[d]<48:=by
  have:=(h.src (gM ht)).2.2 _ (gM l);have:=h.n;rw[<- h.len] at this;omega
 have u:zh (zG m es).rf m.rs[t].2[d] m.rs[t].1=true:=by
  unfold zh at r ⊢;rw[<- zsq hs g];exact r
 obtain⟨z,r',o,_,f,v⟩:=(h.rfb he).1 u;have y:m.rs.Pairwise fun a b=>a.1<b.1:=by
  rw[h.m];exact zn5 _ _ _ _
 have i:=zpr (key:=fun a:Nat×List Nat=>a.1) y c o v;subst i;have k:=Uc (c.symm.trans o);rw[<- k,gDe,q] at f;have f:m.rs[t].2[e]?=some m.rs[t].2[d]:=f;rw[gE x] at f;have:=(List.getElem_inj s).1 (Uc f);rw[p,q,this]
theorem ChoiceW.dig_w(h:ChoiceW init Ps m)(hd:ds∈qt (zM m)){l:Nat}(hl:l<init.length):∃d,ds[m.rs.length+l]?=some d/\∃hlt:d<(zO (qa m.base l)).length,chR (m.wr.map zO) (ds.drop m.rs.length) l=(zO (qa m.base l))[d]:=by
 obtain⟨k,i⟩:=za6 hd;obtain⟨w1,g⟩:=h.wr;have b:l<m.wr.length:=by omega
 have e:m.wr[l]=qa m.base l:=by
  have:=g l hl;rw[gDe,gE b] at this;exact this
 have f:(zM m)[m.rs.length+l]?=some (zO (qa m.base l)).length:=by
  unfold zM;rw[Jm (by rw[QJ];omega),QJ,Jw,KT,gE b,e];rfl
 have a:m.rs.length+l<ds.length:=by rw[k];exact(Jr.1 f).1
 have c:=i _ _ _ f (gE a);refine⟨ds[m.rs.length+l],gE a,c,?_⟩;have n:(m.wr.map zO).getD l []=zO (qa m.base l):=by
  rw[gDe,KT,gE b,e];rfl
 have j:(ds.drop m.rs.length).getD l 0=ds[m.rs.length+l]:=by
  rw[gDe,Kx,gE a];rfl
 unfold chR;rw[n,j,gDe,gE c];rfl
theorem ChoiceW.co_dig(h:ChoiceW init Ps m)(hd:ds∈qt (zM m))(he:es∈qt (zM m))(hs:jy (zG m ds).co (zG m es).co=true){l:Nat}(hl:l<init.length):ds[m.rs.length+l]?=es[m.rs.length+l]?:=by
 obtain⟨d,x,d2,t⟩:=h.dig_w hd hl;obtain⟨e,z,e2,v⟩:=h.dig_w he hl;obtain⟨r,q⟩:=h.chx he;have a:l<(m.wr.map zO).length:=by rw[QJ,h.wr.1];exact hl
 obtain⟨_,u⟩:=zek m.base.ev (m.wr.map zO) 0 (es.drop m.rs.length) (m.base.co,m.base.mem) r q;have p:zR (zG m ds) l=chR (m.wr.map zO) (es.drop m.rs.length) l:=by
  refine zil (zdj h) (h.ch he l hl).1 fun i c j=>?_;have b:i<48:=by
   have:=zgb ((h.ch he l hl).1.subset c);have:=h.n;rw[<- h.len] at this;omega
  have e:zh (zG m ds).co i j=zh (coG m.base.ev 0 (m.wr.map zO) (es.drop m.rs.length) (m.base.co,m.base.mem)).1 i j:=by
   unfold zh;rw[zsq hs b];rfl
  rw[e,Bool.eq_iff_iff,u,dE];constructor
  ·rintro(⟨k,g,o,w⟩ | ⟨g,o⟩)
   ·have:=q i k l g a o c;rw[<- this];exact w
   ·exact Gp c (g l a)
  ·exact fun y => .inl ⟨l,a,c,y⟩
 rw[h.rank hd hl,t,v] at p;obtain⟨s,_⟩:=h.head hl;have f:(qa m.base l).length<=48:=by
  have:=zhv m.base l;have:=h.n;have:=h.len;omega
 have:=(List.getElem_inj (zmj (List.nodup_range.filter _) s f)).1 p;rw[x,z,this]
theorem ChoiceW.same(h:ChoiceW init Ps m)(hd:ds∈qt (zM m))(he:es∈qt (zM m))(hs:zsj (zG m ds) (zG m es)=true):ds=es:=by
 obtain⟨_,b,c⟩:=znR hs;have g:=(za6 hd).1;have f:=(za6 he).1;have e:(zM m).length=m.rs.length+init.length:=by
  unfold zM;rw[lap,QJ,QJ,h.wr.1]
 refine KO fun t=>?_;by_cases a:t<m.rs.length
 ·exact h.rf_dig hd he b a
 ·by_cases d:t<m.rs.length+init.length
  ·have:=h.co_dig hd he c (l:=t-m.rs.length) (by omega);rw[show m.rs.length+(t-m.rs.length)=t by omega] at this;exact this
  ·rw[JI (by omega),JI (by omega)]
end
end Go.Proofs.YtakcdebpklffiaaGreatDoor
