/- Contracts of functions, and plain facts, for the law that the last text of this claim proves. -/
import Derived.Test.YtnadlhpkpnfmbaaGreatDoorC6
import Derived.Test.YtnadlhpkpnfmbaaGreatDoorC1
import Derived.KernelRfl
import Derived.Test.YtnadlhpkpnfmbaaGreatDoorC4
import Derived.Test.YtnadlhpkpnfmbaaGreatDoorC3
import Derived.Test.YtnadlhpkpnfmbaaGreatDoorC5
import Derived.Test.YtnadlhpkpnfmbaaGreatDoorC2
set_option linter.unusedSimpArgs false
set_option linter.unusedVariables false
namespace Go.Proofs.YtnadlhpkpnfmbaaGreatDoor
open Go.Vc Go.RowKit Go.Sei
section
variable {x:ExD} {q p:OA} {c cap bb mb L:Nat} {g:Bs->RelD} {w X Y:Wd} {t:Trm} {kids:List Trm} {r:RelD}
theorem zo8 (h:zE r.to):zE (jl r).to:=by
 by_cases ho:okR r=true
 ·exact (zeI ho h).plus.w
 ·have e:jl r=zn:=by unfold jl;rw [GB ho]
  rw [e];exact zbH
theorem zoI (h:zE r.to):zE (za8 r).to:=by
 by_cases ho:okR r=true
 ·exact (zeI ho h).star.w
 ·have e:za8 r=zn:=by unfold za8;rw [GB ho]
  rw [e];exact zbH
theorem zjt (h:0<kids.length):valH x g kids=valT x g kids[0]:=by
 cases kids with
 | nil=>exact GD h (by decide)
 | cons a l=>rw [valH];rfl
theorem zjs (h:1<kids.length):valS x g kids=valT x g kids[1]:=by
 cases kids with
 | nil=>exact GD h (by decide)
 | cons a l=>cases l with
  | nil=>exact GD (show 1<1 from h) (by decide)
  | cons b l=>rw [valS,valH];rfl
theorem zka:∀ n:Nat,n<10->n≠1->n≠9->∀ len:Nat,(len:Int)=js n->0<len/\(n≠6->n≠7->n≠8->1<len/\(n=2\/n=3\/n=4\/n=5))
 | 0,_,_,_,len,h=>by have:js 0 = -1:=rfl;omega
 | 1,_,h,_,_,_=>GD rfl h
 | 2,_,_,_,len,h=>by have:js 2=2:=rfl;omega
 | 3,_,_,_,len,h=>by have:js 3=2:=rfl;omega
 | 4,_,_,_,len,h=>by have:js 4=2:=rfl;omega
 | 5,_,_,_,len,h=>by have:js 5=2:=rfl;omega
 | 6,_,_,_,len,h=>by have:js 6=1:=rfl;omega
 | 7,_,_,_,len,h=>by have:js 7=1:=rfl;omega
 | 8,_,_,_,len,h=>by have:js 8=1:=rfl;omega
 | 9,_,_,h,_,_=>GD rfl h
 | n+10,h,_,_,_,_=>GD h (by omega)
structure VaB (x:ExD) (q:OA) (c bb mb:Nat) (g:Bs->RelD) (w:Wd) (L:Nat) (t:Trm) (p:OA) (cap:Nat) (X:Wd):Prop where
 tm:X.heap[L]?=some (.cells (ze t p cap).toArray 24 (0,0))
 z:zG X (L+1) zn
 k:KidsT jS X p t.kids
 wd:WldH x q c bb mb g X
 b:Bw w X
theorem VaB.below (h:VaB x q c bb mb g w L t p cap X) (hb:Bw X Y):VaB x q c bb mb g w L t p cap Y :=
 ⟨zb hb h.tm,zb hb h.z,h.k.kept hb,h.wd.below hb,zst h.b hb⟩
theorem zsN {k:UInt8} {nq:Bs} (hv:VT (.mk k nq kids)) (ih:∀ y∈kids,zqs x q c bb mb y):zqs x q c bb mb (.mk k nq kids):=by
 intro g w p cap hW hK hl;obtain⟨hk10,hkl,_,hkv⟩:=hv.inv;refine zU 91 [At0 bb,.agg (ze (.mk k nq kids) p cap).toArray] (.c .p (.c (.s .p (.b .p)) (.c .p (.c (.s .p (.b .p)) (.c .p (.c .p (.c (.s .p (.b .p)) .p))))))) Tryz.func52 ?_;obtain⟨R,hR⟩:=nm (valT x g (.mk k nq kids));rw [<- hR];rw [valT] at hR;obtain⟨L,hL⟩:=nm (w.heap.size);have nk:∀ m:UInt8,decide ((k.toNat:Int)=(m.toNat:Int))=decide (k=m):=fun m=>qT k m;refine⟨Unit,fun _=>⟨[(0,At0 bb),(3,At0 L),(4,At0 (L+1))],[]⟩,fun _ X=>VaB x q c bb mb g w L (.mk k nq kids) p cap X,?_,?_⟩
 ·obtain⟨W1,e1⟩:=nm (w.alloc (.cells (ze (.mk k nq kids) p cap).toArray 24));have n1:W1.heap.size=L+1:=by rw [e1,hL];exact wz _ _
  have f1:W1.heap[L]?=some (.cells (ze (.mk k nq kids) p cap).toArray 24 (0,0)):=by rw [e1,hL];exact zt w _
  have b1:Bw w W1:=by rw [e1];exact zba _ _
  obtain⟨W2,e2⟩:=nm (W1.alloc (.cells (zf zn).toArray 30));have f2:zG W2 (L+1) zn:=by rw [e2,<- n1];exact zt W1 _
  have b2:Bw W1 W2:=by rw [e2];exact zba _ _
  have b12:=zst b1 b2;have key:VaB x q c bb mb g w L (.mk k nq kids) p cap W2:=⟨zb b2 f1,f2,hK.kept b12,hW.below b12,b12⟩;rw [e2,e1] at key;refine⟨(),⟨.cons rfl (.cons (by rw [hL];rfl) (.cons ?_ .nil)),rfl⟩,key⟩;show some (At0 (w.alloc (.cells (ze (.mk k nq kids) p cap).toArray 24)).heap.size)=_;rw [wz,hL]
 clear hW hK;have ret:∀ {V:Wd},VaB x q c bb mb g w L (.mk k nq kids) p cap V->zE R.to->SatR ((storeVar 30 ⟨L+1,0,none⟩ (.agg (zf R).toArray)).run PG V) fun _ w'=>∃ cells,cells.length=49/\zq w' ⟨L+1,0,none⟩ cells/\Ending.returned (.agg cells.toArray) = .returned (.agg (zf R).toArray)/\Bw w w'/\zE R.to:=fun {V} hV hw =>
  zW hV.z (by omega) hV.b fun Z fZ bZ=>⟨zf R,zd _,za fZ,rfl,bZ,hw⟩
 rintro _ X hX;refine⟨Unit,fun _=>⟨[(0,At0 bb),(3,At0 L),(4,At0 (L+1))],[]⟩,fun _ Y=>X=Y/\k≠1/\k≠9,?_,?_⟩
 ·refine⟨_,zc (za hX.tm) (i:=0) rfl,biE (fun h1=>?_) fun h1=>?_⟩
  ·have h1:k=1:=dT ((nk 1).symm.trans h1);rw [GC h1] at hR;rw [hR];refine DrawE.ord [7] [0,1,2,3,4,5,6,7] (by kernel_rfl) ⟨_,zc (za (hdr hX.wd.f)) (i:=334) (zev x q c mb),_,zc (za (hdr hX.tm)) (i:=1) rfl,_,fun w2 hb=>zsw hX.wd nq ((Gm _ X).drew.trans hb),?_⟩;have hw:=hX.wd.w nq;rw [<- hR] at hw ⊢;exact ret (hX.below (Gm _ X).drew) hw
  have h1:k≠1:=dF ((nk 1).symm.trans h1);rw [GB h1] at hR;refine biE (fun h9=>?_) fun h9=>?_
  ·have h9:k=9:=dT ((nk 9).symm.trans h9);rw [GC h9] at hR;have hn:=hX.wd.v.n;have bd:=(Gm X.heap.size X).drew;have hXd:=hX.below bd;have hm:znf x nq<2^64:=by rw [zqW];exact zpd fun a ha=>by have:=Ut.1 (QX.1 ha).1;omega
   refine DrawE.ord [9] [0,1,2,3,4,5,6,7,8,9] (by kernel_rfl) ⟨_,zc (za hXd.wd.f) (i:=333) (zsM x q c mb),_,zc (za hXd.tm) (i:=1) rfl,cmo (zsW hXd.wd nq) ?_⟩;rintro e V1 ⟨rfl,v1⟩;refine⟨v1,cmo (zoi (n:=x.ev.length) (s:=znf x nq) (by omega) hm) ?_⟩;rintro e V2 ⟨rfl,v2⟩;refine⟨v2,?_⟩;have hw:=(RelOk.idr (n:=x.ev.length) (by omega) (znf x nq)).w;rw [<- hR] at hw ⊢;exact ret ((hXd.below v1).below v2) hw
  ·have h9:k≠9:=dF ((nk 9).symm.trans h9);exact⟨(),(cvE rfl rfl),rfl,h1,h9⟩
 rintro _ _ ⟨rfl,h1,h9⟩;rw [GB h1,GB h9] at hR;have nat:∀ m:UInt8,k≠m->k.toNat≠m.toNat:=fun m h e=>h (Uj.1 e);obtain⟨hlen,hbin⟩:=zka k.toNat hk10 (nat 1 h1) (nat 9 h9) kids.length hkl;obtain⟨a,hae⟩:=nm (valT x g kids[0]);rw [zjt hlen,<- hae] at hR;refine⟨Nat,fun b5=>⟨[(0,At0 bb),(3,At0 L),(4,At0 (L+1)),(5,At0 b5)],[]⟩,fun b5 Y=>VaB x q c bb mb g w L (.mk k nq kids) p cap Y/\zG Y b5 a/\zE a.to,?_,?_⟩
 ·obtain⟨b,o,q2,c2,hp,hc,hbl,hnl,hkk⟩:=KidsT.kid (l:=kids) hX.k hlen;refine⟨_,zc (za hX.tm) (i:=2) (v := .slice p kids.length cap) rfl,?_⟩;subst hp;refine⟨0,rfl,hlen,_,rfl,hc,hbl,cmo (ih kids[0] (gM hlen) hX.wd hkk hnl) ?_⟩;rintro e Y ⟨rfl,bY,hw⟩;rw [<- hae] at hw ⊢;exact zl (X:=Y) (v := .agg (zf a).toArray) k30 (zd _) (by kernel_rfl) (zB _) fun Z hbZ fZ sZ=>⟨Y.heap.size,(cvE rfl rfl),(hX.below bY).below hbZ,fZ,hw⟩
 clear hX X;rintro b5 X ⟨hX,fa,ha⟩;refine⟨Unit,fun _=>⟨[(0,At0 bb),(3,At0 L),(4,At0 (L+1)),(5,At0 b5)],[]⟩,fun _ Y=>X=Y/\k≠6/\k≠7/\k≠8,?_,?_⟩
 ·refine⟨_,zc (za hX.tm) (i:=0) rfl,biE (fun h=>?_) fun h6=>?_⟩
  ·have h:k=6:=dT ((nk 6).symm.trans h);have e:R=qp a:=by rw [hR,GC (by rw [h];decide),h];rfl
   refine⟨zf a,zd _,za fa,hlt fa,cmo (zet ha hX.wd.t) ?_⟩;rintro e9 Y ⟨rfl,bY,hw⟩;rw [<- e] at hw ⊢;exact ret (hX.below bY) hw
  have h6:k≠6:=dF ((nk 6).symm.trans h6);refine biE (fun h=>?_) fun h7=>?_
  ·have h:k=7:=dT ((nk 7).symm.trans h);have e:R=jl a:=by rw [hR,GC (by rw [h];decide),h];rfl
   refine⟨zf a,zd _,za fa,hlt fa,cmo (zhB ha hX.wd.t) ?_⟩;rintro e9 Y ⟨rfl,bY⟩;have hw:=zo8 ha;rw [<- e] at hw ⊢;exact ret (hX.below bY) hw
  have h7:k≠7:=dF ((nk 7).symm.trans h7);refine biE (fun h=>?_) fun h8=>?_
  ·have h:k=8:=dT ((nk 8).symm.trans h);have e:R=za8 a:=by rw [hR,GC (by rw [h];decide),h];rfl
   refine⟨zf a,zd _,za fa,hlt fa,cmo (zhA ha hX.wd.t) ?_⟩;rintro e9 Y ⟨rfl,bY⟩;have hw:=zoI ha;rw [<- e] at hw ⊢;exact ret (hX.below bY) hw
  have h8:k≠8:=dF ((nk 8).symm.trans h8);exact⟨(),(cvE rfl rfl),rfl,h6,h7,h8⟩
 rintro _ _ ⟨rfl,h6,h7,h8⟩;rw [GB (by rintro (h | h | h);exact h6 h;exact h7 h;exact h8 h)] at hR;obtain⟨hlen2,hk4⟩:=hbin (nat 6 h6) (nat 7 h7) (nat 8 h8);obtain⟨b',hbe⟩:∃ b',b'=valT x g kids[1]:=⟨_,rfl⟩;rw [zjs hlen2,<- hbe] at hR;refine⟨Nat,fun b6=>⟨[(0,At0 bb),(3,At0 L),(4,At0 (L+1)),(5,At0 b5),(6,At0 b6)],[]⟩,fun b6 Y=>VaB x q c bb mb g w L (.mk k nq kids) p cap Y/\zG Y b5 a/\zG Y b6 b'/\zE b'.to,?_,?_⟩
 ·obtain⟨b,o,q2,c2,hp,hc,hbl,hnl,hkk⟩:=KidsT.kid (l:=kids) hX.k hlen2;refine⟨_,zc (za hX.tm) (i:=2) (v := .slice p kids.length cap) rfl,?_⟩;subst hp;refine⟨1,rfl,hlen2,_,rfl,hc,hbl,cmo (ih kids[1] (gM hlen2) hX.wd hkk hnl) ?_⟩;rintro e Y ⟨rfl,bY,hw⟩;rw [<- hbe] at hw ⊢;exact zl (X:=Y) (v := .agg (zf b').toArray) k30 (zd _) (by kernel_rfl) (zB _) fun Z hbZ fZ sZ=>⟨Y.heap.size,(cvE rfl rfl),(hX.below bY).below hbZ,zb hbZ (zb bY fa),fZ,hw⟩
 clear hX fa X;rintro b6 X ⟨hX,fa,fb,hb⟩;refine⟨Nat,fun b7=>⟨[(3,At0 L),(4,At0 (L+1)),(5,At0 b5),(6,At0 b6),(7,At0 b7)],[]⟩,fun b7 Y=>VaB x q c bb mb g w L (.mk k nq kids) p cap Y/\zG Y b5 a/\zG Y b6 b'/\zG Y b7 zn/\X.heap.size<=b7,?_,?_⟩
 ·have bz:=zba X (.cells (zf zn).toArray 30);exact⟨X.heap.size,(cvE rfl rfl),hX.below bz,zb bz fa,zb bz fb,zt X _,Gh _⟩
 have hXs:=hX.b.size;have hXz:=hlt hX.z;clear hX fa fb;obtain⟨S0,hS0⟩:=nm (X.heap.size);rw [<- hS0] at hXs hXz ⊢;clear hS0 X;rintro b7 X ⟨hX,fa,fb,fz,h7s⟩;refine⟨Unit,fun _=>⟨[(4,At0 (L+1)),(7,At0 b7)],[]⟩,fun _ Y=>zG Y (L+1) zn/\Bw w Y/\zG Y b7 R/\zE R.to,?_,?_⟩
 ·refine⟨_,zc (za hX.tm) (i:=0) rfl,?_⟩;have fin:∀ {V:Wd},Bw X V->zE R.to->SatR ((storeVar 30 ⟨b7,0,none⟩ (.agg (zf R).toArray)).run PG V) fun _ w'=>zG w' (L+1) zn/\Bw w w'/\zG w' b7 R/\zE R.to:=fun {V} hV hw =>
   zr (v := .agg (zf R).toArray) k30 (zb hV fz) (zd _) (zd _) (zB _) ⟨(zp (by omega)).trans (zb hV hX.z),zk (zst hX.b hV) (by omega) _,zm (zb hV fz),hw⟩
  refine biE (fun h=>?_) fun h2b=>?_
  ·have h:k=2:=dT ((nk 2).symm.trans h);have e:R=(zX a b').1:=by rw [hR,h];rfl
   refine⟨zf a,zd _,za fa,hlt fa,zf b',zd _,za fb,hlt fb,cmo (zc4 ha hb) ?_⟩;rintro e9 Y ⟨rfl,bY⟩;have hw:zE (zX a b').1.to:=zm4 ha hb;rw [<- e] at hw ⊢;obtain⟨u,w',g1,g2⟩:=fin bY hw;exact⟨u,w',g1,(),(cvE rfl rfl),g2⟩
  have h2b:k≠2:=dF ((nk 2).symm.trans h2b);refine biE (fun h=>?_) fun h3b=>?_
  ·have h:k=3:=dT ((nk 3).symm.trans h);have e:R=(zaT a b').1:=by rw [hR,h];rfl
   refine⟨zf a,zd _,za fa,hlt fa,zf b',zd _,za fb,hlt fb,cmo (zqD ha hb) ?_⟩;rintro e9 Y ⟨rfl,bY⟩;have hw:zE (zaT a b').1.to:=zqf ha;rw [<- e] at hw ⊢;obtain⟨u,w',g1,g2⟩:=fin bY hw;exact⟨u,w',g1,(),(cvE rfl rfl),g2⟩
  have h3b:k≠3:=dF ((nk 3).symm.trans h3b);refine biE (fun h=>?_) fun h4b=>?_
  ·have h:k=4:=dT ((nk 4).symm.trans h);have e:R=(zaQ a b').1:=by rw [hR,h];rfl
   refine⟨zf a,zd _,za fa,hlt fa,zf b',zd _,za fb,hlt fb,cmo (zqy ha hb) ?_⟩;rintro e9 Y ⟨rfl,bY⟩;have hw:zE (zaQ a b').1.to:=znK ha;rw [<- e] at hw ⊢;obtain⟨u,w',g1,g2⟩:=fin bY hw;exact⟨u,w',g1,(),(cvE rfl rfl),g2⟩
  have h4b:k≠4:=dF ((nk 4).symm.trans h4b);refine biE (fun h=>?_) fun h5b=>?_
  ·have h:k=5:=dT ((nk 5).symm.trans h);have e:R=(zbq a b').1:=by rw [hR,h];rfl
   refine⟨zf a,zd _,za fa,hlt fa,zf b',zd _,za fb,hlt fb,cmo (zhz ha hb hX.wd.t) ?_⟩;rintro e9 Y ⟨rfl,bY⟩;have hw:zE (zbq a b').1.to:=zjx ha hb;rw [<- e] at hw ⊢;obtain⟨u,w',g1,g2⟩:=fin bY hw;exact⟨u,w',g1,(),(cvE rfl rfl),g2⟩
  have h5b:k≠5:=dF ((nk 5).symm.trans h5b)
  exfalso
  have n2:=nat 2 h2b;have n3:=nat 3 h3b;have n4:=nat 4 h4b;have n5:=nat 5 h5b;rcases hk4 with h | h | h | h
  ·exact n2 h
  ·exact n3 h
  ·exact n4 h
  ·exact n5 h
 rintro _ Y ⟨fz,bY,fR,hw⟩;exact⟨zf R,zd _,za fR,hlt fR,zW fz (by omega) bY fun Z fZ bZ=>⟨zf R,zd _,za fZ,rfl,bZ,hw⟩⟩
theorem zot:∀ t,VT t->zqs x q c bb mb t
 | .mk k nq kids,hv=>zsN hv fun y hy=>zot y (hv.inv.2.2.2 y hy)
end
def evR (t:Trm) (ls:List LineD) (x:ExD):RelD×Int:=match zax t ls x with
 | none=>(zn,2)
 | some r=>(r,0)
theorem znV {ls:List LineD} {s:Bs} {lets:Bs->Bool} (h:ju ls=some (s,lets)):∀ s,lets s=true->s.length<=16:=by
 unfold ju at h
 split at h
 ·cases h
 ·split at h
  ·cases h
  ·rename_i lets' e;dsimp only at h
   split at h
   ·cases h
   ·simp only [Qb,UN] at h;rw [<- h.2];exact (zcg ls _ _ 0 lets' (fun s hs=>by cases hs) (by decide) e).2.2
structure EvB (w:Wd) (ls:List LineD) (p:OA) (cap:Nat) (t:Trm) (tq:OA) (tc:Nat) (x:ExD) (q:OA) (c L:Nat) (X:Wd):Prop where
 t:X.heap[L]?=some (.cells (ze t tq tc).toArray 24 (0,0))
 m:X.heap[L+1]?=some (.cells #[.slice p ls.length cap] 47 (0,0))
 e:ExH X (L+2) x q c
 z:zG X (L+3) zn
 b:Bw w X
 s:L+4<=X.heap.size
section
variable {x:ExD} {q p tq:OA} {c cap tc L:Nat} {w X Y:Wd} {ls:List LineD} {t:Trm}
theorem EvB.upto (h:EvB w ls p cap t tq tc x q c L X) (hL:w.heap.size<=L+4) (hb:Below (L+4) X Y):EvB w ls p cap t tq tc x q c L Y :=
 ⟨(hb.block _ (by omega)).trans h.t,(hb.block _ (by omega)).trans h.m,(hb.block _ (by omega)).trans h.e,(hb.block _ (by omega)).trans h.z,h.b.trans (hb.mono hL),UX h.s hb.size⟩
theorem EvB.below (h:EvB w ls p cap t tq tc x q c L X) (hL:w.heap.size<=L+4) (hb:Bw X Y):EvB w ls p cap t tq tc x q c L Y:=h.upto hL (hb.mono h.s)
theorem ziD (hg:GlobK w) (hM:LinsM jS w p ls) (hlen:ls.length<=140737488351232) (hK:KidsT jS w tq t.kids) (htn:t.name.length<=140737488351232) (hv:ExV w x q) (hT:Tz64M w) :
  CB 12 #[.agg (ze t tq tc).toArray,.agg #[.slice p ls.length cap],.agg (exC x q c).toArray] w (.tuple #[.agg (zf (evR t ls x).1).toArray,i64 (evR t ls x).2]):=by
 refine zU 71 [.agg (ze t tq tc).toArray,.agg #[.slice p ls.length cap],.agg (exC x q c).toArray] (.c .p (.c .p (.c .p (.c (.s .p .p) (.c .p (.c .p (.c (.s .p .p) (.c .p (.s (.s .p (.b (.l (.s .p (.s .p (.s (.b (.c .p (.s .p .p))) .p)))))) .p))))))))) Tryz.func12 ?_;obtain⟨L,hL⟩:=nm (w.heap.size);have hL4:w.heap.size<=L+4:=by omega
 refine⟨Unit,fun _=>⟨[(3,At0 L),(4,At0 (L+1)),(5,At0 (L+2)),(6,At0 (L+3))],[]⟩,fun _ X=>EvB w ls p cap t tq tc x q c L X,?_,?_⟩
 ·obtain⟨W1,e1⟩:=nm (w.alloc (.cells (ze t tq tc).toArray 24));have n1:W1.heap.size=L+1:=by rw [e1,hL];exact wz _ _
  have f1:W1.heap[L]?=some (.cells (ze t tq tc).toArray 24 (0,0)):=by rw [e1,hL];exact zt w _
  have b1:Bw w W1:=by rw [e1];exact zba _ _
  obtain⟨W2,e2⟩:=nm (W1.alloc (.cells #[.slice p ls.length cap] 47));have n2:W2.heap.size=L+2:=by rw [e2,wz,n1]
  have f2:W2.heap[L+1]?=some (.cells #[.slice p ls.length cap] 47 (0,0)):=by rw [e2,<- n1];exact zt W1 _
  have b2:Bw W1 W2:=by rw [e2];exact zba _ _
  obtain⟨W3,e3⟩:=nm (W2.alloc (.cells (exC x q c).toArray 37));have n3:W3.heap.size=L+3:=by rw [e3,wz,n2]
  have f3:ExH W3 (L+2) x q c:=by rw [e3,<- n2];exact zt W2 _
  have b3:Bw W2 W3:=by rw [e3];exact zba _ _
  obtain⟨W4,e4⟩:=nm (W3.alloc (.cells (zf zn).toArray 30));have n4:W4.heap.size=L+4:=by rw [e4,wz,n3]
  have f4:zG W4 (L+3) zn:=by rw [e4,<- n3];exact zt W3 _
  have b4:Bw W3 W4:=by rw [e4];exact zba _ _
  have key:EvB w ls p cap t tq tc x q c L W4:=⟨zb b4 (zb b3 (zb b2 f1)),zb b4 (zb b3 f2),zb b4 f3,f4,zst b1 (zst b2 (zst b3 b4)),by omega⟩;rw [e4,e3,e2,e1] at key;rw [e1] at n1;rw [e2,e1] at n2;rw [e3,e2,e1] at n3;exact⟨(),⟨.cons (by rw [hL];rfl) (.cons (Gw (fun n=>some (At0 n)) n1) (.cons (Gw (fun n=>some (At0 n)) n2) (.cons (Gw (fun n=>some (At0 n)) n3) .nil))),rfl⟩,key⟩
 have kd:KidsT (fun b=>b<w.heap.size) w tq t.kids:=hK.there.weak fun b hb=>hb.2;have kids:∀ {Z:Wd},Bw w Z->KidsT (fun b=>b<w.heap.size) Z tq t.kids:=fun {Z} hZ=>kd.by fun b cs ty fr hb hc=>hZ.block b hb
 obtain⟨R,hR⟩:=nm (evR t ls x);rw [<- hR];have ret:∀ {V:Wd} {r:RelD} {n:Int},EvB w ls p cap t tq tc x q c L V->R=(r,n)->SatR ((storeVar 30 ⟨L+3,0,none⟩ (.agg (zf r).toArray)).run PG V) fun _ w'=>∃ cells,cells.length=49/\zq w' ⟨L+3,0,none⟩ cells/\Ending.returned (.tuple #[.agg cells.toArray,i64 n]) = .returned (.tuple #[.agg (zf R.1).toArray,i64 R.2])/\Bw w w':=fun {V r n} hV e =>
  zW hV.z (by omega) hV.b fun Z fZ bZ=>⟨zf r,zd _,za fZ,by rw [e],bZ⟩
 rintro _ X hX;refine⟨Option (Nat×(Bs->Bool)),fun y=>⟨[(3,At0 L),(4,At0 (L+1)),(5,At0 (L+2)),(6,At0 (L+3)),(9,.map (y.map (·.1))),(10,.bool y.isSome)],[]⟩,fun y X=>EvB w ls p cap t tq tc x q c L X/\(y=none->ju ls=none)/\∀ z,y=some z->(∃ s,ju ls=some (s,z.2))/\MapF zbn X z.1 (zef z.2)/\L+4<=z.1,?_,?_⟩
 ·refine⟨_,rfl,za hX.m,hlt hX.m,cmo (zpQ (cap:=cap) (hg.below hX.b) (hM.below hX.b) hlen) ?_⟩;rintro e Y ⟨bY,hno,hyes⟩;have hs:=hX.s
  cases he:ju ls with
  | none =>
   obtain rfl:=hno he;exact⟨none,(cvE rfl rfl),hX.below hL4 bY,fun _=>rfl,fun z hz=>(by cases hz)⟩
  | some y =>
   obtain⟨l,rfl,hm,hl⟩:=hyes y he;exact⟨some (l,y.2),(cvE rfl rfl),hX.below hL4 bY,fun h=>(by cases h),fun z hz=>(by cases hz;exact⟨⟨y.1,rfl⟩,hm,by omega⟩)⟩
 clear hX X;rintro y X ⟨hX,hno,hyes⟩
 cases y with
 | none =>
  have hR0:R=(zn,2):=by rw [hR];unfold evR zax;rw [hno rfl]
  refine⟨Unit,fun _=>⟨[(3,At0 L),(4,At0 (L+1)),(5,At0 (L+2)),(6,At0 (L+3)),(10,.bool false)],[]⟩,fun _ X=>EvB w ls p cap t tq tc x q c L X,?_,?_⟩
  ·exact⟨[.map none,i64 0],rfl,(),(cvE rfl rfl),hX.below hL4 (zba _ _)⟩
  clear hX hno hyes X;rintro _ X hX;refine⟨Unit,fun _=>⟨[],[]⟩,fun _ _=>False,brT (brT (brT ⟨zf zn,by kernel_rfl,?_⟩)),fun _ _ h=>h.elim⟩;exact ret hX hR0
 | some z =>
  obtain⟨lm,lets⟩:=z;obtain⟨⟨s,hex⟩,hm,hlm⟩:=hyes (lm,lets) rfl;clear hno hyes;dsimp only at hex hm hlm;have hle:=znV hex;have hsome:(ju ls).isSome=true:=by rw [hex];rfl
  have hkinds:=zhl hsome;have fail:(¬ ((chkT lets 0 t).1&&zY x)=true)->R=(zn,2):=fun h=>by
   rw [hR];unfold evR zax;rw [hex];dsimp only;rw [GB h]
  refine⟨Nat,fun kb=>⟨[(3,At0 L),(4,At0 (L+1)),(5,At0 (L+2)),(6,At0 (L+3)),(10,.bool true),(11,At0 kb)],[]⟩,fun kb X=>EvB w ls p cap t tq tc x q c L X/\ChkB kb lm lets 0 X/\L+4<=kb,?_,?_⟩
  ·refine⟨[.map (some lm),i64 0],rfl,?_⟩;have f5:=zt X (.cells #[.map (some lm),i64 0] 110);have b5:=zba X (.cells #[.map (some lm),i64 0] 110);have hml:=jN hm;have hs:=hX.s;have hgl:=hg.lt;exact⟨X.heap.size,(cvE rfl rfl),hX.below hL4 b5,⟨f5,hm.below b5,by omega,by omega,by omega,(hg.below hX.b).below b5⟩,hs⟩
  clear hX hm X;rintro kb X ⟨hX,hC,hkb⟩;rcases hce:chkT lets 0 t with ⟨b2,m⟩;refine⟨Unit,fun _=>⟨[(3,At0 L),(4,At0 (L+1)),(5,At0 (L+2)),(6,At0 (L+3))],[]⟩,fun _ X=>EvB w ls p cap t tq tc x q c L X/\b2=true/\zY x=true,?_,?_⟩
  ·refine brF ⟨_,rfl,za hX.t,hlt hX.t,?_⟩;have hck:=zp8 (kb:=kb) (l:=lm) (lets:=lets) (Q:=fun b=>b<w.heap.size) (fun b hb=>by omega) t 0 tq tc X (by decide) hC htn (kids hX.b);rw [hce] at hck;refine cmo hck ?_;rintro e Y ⟨rfl,hY,gY⟩;have hXY:EvB w ls p cap t tq tc x q c L Y:=hX.upto hL4 ⟨gY.os,gY.tape,gY.output,gY.size,fun j hj=>gY.block j (by have:=hX.s;omega) (by simp;omega)⟩;refine biE (fun h=>?_) fun h=>?_
   ·have h:(!b2)=true:=h;refine brT ⟨zf zn,by kernel_rfl,?_⟩;exact ret hXY (fail (by rw [hce,zft h];show ¬ (false&&zY x)=true;rw [Un];decide))
   have h:(!b2)=false:=h;have hb2:b2=true:=zed h;refine⟨exC x q c,zH _ _ _,za hXY.e,hlt hXY.e,cmo (zdD (hv.below hXY.b) (hT.below hXY.b)) ?_⟩;rintro e Z ⟨rfl,bZ⟩;have hZ:=hXY.below hL4 bZ;refine biE (fun h2=>?_) fun h2=>?_
   ·have h2:(!zY x)=true:=h2;refine⟨zf zn,by kernel_rfl,?_⟩;exact ret hZ (fail (by rw [zft h2,Um];decide))
   ·have h2:(!zY x)=false:=h2;exact⟨(),(cvE rfl rfl),hZ,hb2,zed h2⟩
  clear hX hC X;rintro _ X ⟨hX,hb2,hright⟩;subst hb2;obtain⟨hvt,hnm⟩:=zfM lets hle t 0 m hce;have hm400:m<=400:=by
   have:=(zfe lets 0 t).2 (by rw [hce]);rw [hce] at this;exact this
  have hok:zax t ls x=if (prT ⟨[],0,0⟩ t).most > 50 then none else some (valT x (zg3 x (qr x) ls) t):=by
   unfold zax;rw [hex];dsimp only;rw [hce,hright];rfl
  refine⟨Nat,fun wb=>⟨[(3,At0 L),(4,At0 (L+1)),(5,At0 (L+2)),(6,At0 (L+3)),(12,At0 wb)],[]⟩,fun wb X=>EvB w ls p cap t tq tc x q c L X/\PrB wb ⟨[],0,0⟩ X/\L+4<=wb,?_,?_⟩
  ·have f5:=zt X (.cells #[.slice none 0 0,i64 0,i64 0] 113);have b5:=zba X (.cells #[.slice none 0 0,i64 0,i64 0] 113);have hs:=hX.s;have hgl:=hg.lt;exact⟨X.heap.size,(cvE rfl rfl),hX.below hL4 b5,⟨⟨none,0,f5,OwnS.nil⟩,by omega,(hg.below hX.b).below b5⟩,hs⟩
  clear hX X;rintro wb X ⟨hX,hP,hwb⟩;refine⟨Unit,fun _=>⟨[(3,At0 L),(4,At0 (L+1)),(5,At0 (L+2)),(6,At0 (L+3)),(12,At0 wb)],[]⟩,fun _ X=>EvB w ls p cap t tq tc x q c L X/\PrB wb (prT ⟨[],0,0⟩ t) X,?_,?_⟩
  ·refine⟨_,rfl,za hX.t,hlt hX.t,cmo (zmk (wb:=wb) t hvt ⟨[],0,0⟩ tq tc X hP ((kids hX.b).weak fun b hb=>by omega) (by show 0+40*nodesT t<=_;omega) (by show 0+nodesT t<=_;omega) (by show 0<=_;omega)) ?_⟩;rintro e Y ⟨rfl,hY,sY⟩;exact⟨(),(cvE rfl rfl),hX.upto hL4 ⟨sY.os,sY.tape,sY.output,sY.size,fun j hj=>sY.low j (by omega)⟩,hY⟩
  clear hX hP X;rintro _ X ⟨hX,hP⟩;refine⟨Unit,fun _=>⟨[(3,At0 L),(4,At0 (L+1)),(5,At0 (L+2)),(6,At0 (L+3))],[]⟩,fun _ X=>EvB w ls p cap t tq tc x q c L X/\¬ (prT ⟨[],0,0⟩ t).most > 50,?_,?_⟩
  ·obtain⟨pq,pc,fp,_⟩:=hP.f;refine⟨_,zc (za fp) (i:=2) rfl,biE (fun h=>?_) fun h=>?_⟩
   ·have h:(50:Int)<((prT ⟨[],0,0⟩ t).most:Int):=dT h;refine⟨zf zn,by kernel_rfl,?_⟩;exact ret hX (by rw [hR];unfold evR;rw [hok,GC (by omega)])
   ·have h:¬ (50:Int)<((prT ⟨[],0,0⟩ t).most:Int):=dF h;exact⟨(),(cvE rfl rfl),hX,by omega⟩
  clear hX hP X;rintro _ X ⟨hX,hmost⟩;rw [GB hmost] at hok;have hRR:R=(valT x (zg3 x (qr x) ls) t,0):=by rw [hR];unfold evR;rw [hok]
  clear hok hR;refine⟨Nat×Nat,fun y=>⟨[(3,At0 L),(4,At0 (L+1)),(5,At0 (L+2)),(6,At0 (L+3)),(13,At0 y.1)],[]⟩,fun y X=>EvB w ls p cap t tq tc x q c L X/\w.heap.size<=y.2/\L+4<=y.2/\WldH x q c y.1 y.2 (qr x) X,?_,?_⟩
  ·refine⟨exC x q c,zH _ _ _,za hX.e,hlt hX.e,cmo (zgU (hv.below hX.b) (hT.below hX.b)) ?_⟩;rintro e Y ⟨bb,mb,rfl,h1,h2,f1,m1,b1⟩;have hY:=hX.below hL4 b1;have hs:=hX.s;exact⟨(bb,mb),(cvE rfl rfl),hY,by have:=hX.b.size;omega,by omega,f1,⟨_,m1,zj5⟩,zhZ hv hT,hv.below hY.b,hT.below hY.b⟩
  clear hX X;rintro⟨bb,mb⟩ X ⟨hX,hmb,hmb4,hW⟩;dsimp only at hmb hmb4 hW ⊢;obtain⟨G,hG⟩:=nm (zg3 x (qr x) ls);rw [<- hG] at hRR;refine⟨_,zc (za hX.m) (i:=0) rfl,Nat×(Bs->RelD),fun y=>⟨[(3,At0 L),(6,At0 (L+3)),(13,At0 bb),(48,.slice p ls.length cap),(49,i64 (ls.length:Nat)),(50,.int .i64 (y.1:Nat))],[]⟩,fun y X=>EvB w ls p cap t tq tc x q c L X/\WldH x q c bb mb y.2 X/\y.1<=ls.length/\G=zg3 x y.2 (ls.drop y.1),fun y=>ls.length-y.1,(0,qr x),(cvE rfl rfl),⟨hX,hW,Gj _,hG⟩,?_⟩;clear hX hW hG X;rintro⟨i,g⟩ X ⟨hX,hW,hi,hG⟩;dsimp only at hW hi hG ⊢;refine biE (fun hc=>?_) fun hc=>?_
  ·have hc:(i:Int)<(ls.length:Int):=dT hc;have hil:i<ls.length:=by omega
   rw [Jo hil] at hG;obtain⟨u,hu⟩:=nm (ls[i]);have hum:u∈ls:=by rw [hu];exact gM hil
   rw [<- hu] at hG;have hG:G=zg3 x (if u.kind=0 then zly g u.name (valT x g u.term) else g) (ls.drop (i+1)):=hG;obtain⟨k3,kn,kv⟩:=hkinds u hum;obtain⟨b1,o1,q1,c1,rfl,e1,s1,_,_,m1,kk⟩:=(hM.below hX.b).line hil;rw [<- hu] at e1 m1 kk;refine⟨Nat,fun b9=>⟨[(3,At0 L),(6,At0 (L+3)),(13,At0 bb),(15,At0 b9),(48,.slice (some ⟨b1,o1,none⟩) ls.length cap),(49,i64 (ls.length:Nat)),(50,.int .i64 (i:Nat))],[]⟩,fun b9 Y=>EvB w ls (some ⟨b1,o1,none⟩) cap t tq tc x q c L Y/\WldH x q c bb mb g Y/\Y.heap[b9]?=some (.cells (zA u.kind u.name u.term q1 c1).toArray 49 (0,0))/\KidsT jS Y q1 u.term.kids,?_,?_⟩
   ·exact⟨i,rfl,hil,_,rfl,e1,s1,zl (X:=X) (v := .agg (zA u.kind u.name u.term q1 c1).toArray) k49 rfl rfl rfl fun Y hbY fY sY=>⟨X.heap.size,(cvE rfl rfl),hX.below hL4 hbY,hW.below hbY,fY,kk.kept hbY⟩⟩
   clear hX hW e1 s1 kk X;rintro b9 X ⟨hX,hW,fx,kk⟩;refine⟨_,zc (za fx) (i:=0) rfl,biE (fun h0=>?_) fun h0=>?_⟩
   ·have h0:((u.kind:Nat):Int)=0:=dT h0;rw [GC (by omega)] at hG;have bd:=(Gm X.heap.size X).drew;have t1:zq X ⟨b9,0+2,none⟩ (ze u.term q1 c1):=q9 (o:=2) (n:=3) fx;refine DrawE.ord [10] [0,1,2,3,4,5,6,7,8,9,10] (by kernel_rfl) ⟨_,zc (za (hdr hW.f)) (i:=334) (zev x q c mb),_,zc (za (hdr fx)) (i:=1) rfl,_,rfl,t1,hlt fx,cmo (zot u.term kv (hW.below bd) (kk.kept bd) m1) ?_⟩;rintro e Y ⟨rfl,bY,hw⟩;refine⟨bY,?_⟩;have bYY:=zst bd bY;have hY:=hX.below hL4 bYY;exact WldH.put ((hW.below bd).below bY) hv hT hY.b hmb u.name hw fun V hV bV keep=>nxI (by omega) ⟨(i+1,zly g u.name (valT x g u.term)),(cvE rfl rfl),⟨⟨keep _ _ _ _ hY.t,keep _ _ _ _ hY.m,keep _ _ _ _ hY.e,keep _ _ _ _ hY.z,bV,by have:=hlt (keep _ _ _ _ hY.z);omega⟩,hV,hil,hG⟩,zdc (by omega)⟩
   ·have h0:¬ ((u.kind:Nat):Int)=0:=dF h0;rw [GB (by omega)] at hG;exact nxI (by omega) ⟨(i+1,g),(cvE rfl rfl),⟨hX,hW,hil,hG⟩,zdc (by omega)⟩
  ·have hc:¬ (i:Int)<(ls.length:Int):=dF hc;rw [JA (by omega)] at hG;have hG:G=g:=hG;subst hG;refine⟨_,rfl,za hX.t,hlt hX.t,cmo (zot t hvt hW ((kids hX.b).weak fun b hb=>trivial) htn) ?_⟩;rintro e Y ⟨rfl,bY,hw⟩;exact ret (hX.below hL4 bY) hRR
end
mutual
def nodesA:Trm->Nat
 | .mk _ _ kids=>nodesAL 1 kids
def nodesAL:Nat->List Trm->Nat
 | n,[]=>n
 | n,k::r=>if n > 500 then n else nodesAL (n+nodesA k) r
end
mutual
def depthT:Trm->Nat
 | .mk _ _ kids=>1+depthL kids
def depthL:List Trm->Nat
 | []=>0
 | k::r=>max (depthT k) (depthL r)
end
def zbt:Nat->Trm->Bool
 | 0,_=>false
 | m+1,.mk k s kids=>decide (kids.length<=3)&&(kids.all (zbt m)&&decide (nodesA (.mk k s kids)<=500))
theorem ziu:∀ {l:List Trm} {t:Trm},t∈l->depthT t<=depthL l
 | a::r,t,h=>by
  rw [depthL];rcases UJ.1 h with rfl | h
  ·omega
  ·have:=ziu h;omega
theorem zfI:∀ {l:List Trm} {d:Nat},(∀ t∈l,depthT t<=d)->depthL l<=d
 | [],d,h=>by rw [depthL];omega
 | a::r,d,h=>by
  rw [depthL];have h1:=h a (KB ..);have h2:=zfI (l:=r) fun t ht=>h t (JW _ ht);omega
theorem zcS:∀ (m:Nat) (t:Trm),zbt m t=true->depthT t<=m
 | 0,t,h=>by rw [zbt] at h;cases h
 | m+1,.mk k s kids,h=>by
  rw [zbt,bAT,bAT,Ql] at h;rw [depthT];have:=zfI (l:=kids) (d:=m) fun t ht=>zcS m t (h.2.1 t ht);omega
mutual
theorem nodesA_le:∀ t,nodesA t<=501*depthT t
 | .mk k s kids=>by
  rw [nodesA,depthT];have:=nodesAL_le kids 1;omega
theorem nodesAL_le:∀ (l:List Trm) (n:Nat),nodesAL n l<=max n (500+501*depthL l)
 | [],n=>by rw [nodesAL];omega
 | k::r,n=>by
  rw [nodesAL,depthL]
  split
  ·omega
  ·have h1:=nodesA_le k;have h2:=nodesAL_le r (n+nodesA k);omega
end
section
variable {w:Wd}
def zt2 (t:Trm):Prop:=∀ (q:OA) (cap:Nat) (w:Wd),depthT t<=1000000->KidsT jS w q t.kids ->
 CB 9 #[.agg (ze t q cap).toArray] w (i64 (nodesA t:Nat))
theorem zte {k:UInt8} {s:Bs} {kids:List Trm} (ih:∀ y∈kids,zt2 y):zt2 (.mk k s kids):=by
 intro q cap w hd hK;refine zU 21 [.agg (ze (.mk k s kids) q cap).toArray] (.c .p (.s .p (.s (.s .p (.b (.l (.s .p (.s .p (.s (.b (.c .p (.s (.s .p .p) .p))) .p)))))) .p))) Tryz.func9 ?_;obtain⟨R,hR⟩:=nm (nodesA (.mk k s kids));rw [<- hR];rw [nodesA] at hR;rw [depthT] at hd;obtain⟨L,hL⟩:=nm (w.heap.size);refine⟨Unit,fun _=>⟨[(1,At0 L)],[]⟩,fun _ X=>X.heap[L]?=some (.cells (ze (.mk k s kids) q cap).toArray 24 (0,0))/\Bw w X,⟨(),⟨.cons (by rw [hL];rfl) .nil,rfl⟩,by rw [hL];exact zt w _,zba _ _⟩,?_⟩;rintro _ X ⟨f,hb⟩;have hlen:kids.length<=140737488351232:=hK.inv.1;refine⟨_,zc (za f) (i:=2) (v := .slice q kids.length cap) rfl,Nat×Nat,fun y=>⟨[(3,i64 (y.2:Nat)),(7,.slice q kids.length cap),(8,i64 (kids.length:Nat)),(9,.int .i64 (y.1:Nat))],[]⟩,fun y X=>Bw w X/\y.1<=kids.length/\R=nodesAL y.2 (kids.drop y.1)/\y.2<=501000501,fun y=>kids.length-y.1,(0,1),(cvE rfl rfl),⟨hb,Gj _,hR,by decide⟩,?_⟩;clear hb hR f X;rintro⟨i,n⟩ X ⟨hb,hi,hR,hn⟩;dsimp only at hi hR hn ⊢;refine biE (fun hc=>?_) fun hc=>?_
 ·have hc:(i:Int)<(kids.length:Int):=dT hc;have hil:i<kids.length:=by omega
  rw [Jo hil,nodesAL] at hR;obtain⟨b,o,q2,c2,hq,hc2,hbl,hnl,hkk⟩:=KidsT.kid (l:=kids) (hK.kept hb) hil;subst hq;have hdk:=ziu (gM hil);obtain⟨u,hu⟩:=nm (kids[i]);have hum:u∈kids:=by rw [hu];exact gM hil
  rw [<- hu] at hR hc2 hkk hdk;refine⟨Nat,fun b5=>⟨[(3,i64 (n:Nat)),(5,At0 b5),(7,.slice (some ⟨b,o,none⟩) kids.length cap),(8,i64 (kids.length:Nat)),(9,.int .i64 (i:Nat))],[]⟩,fun b5 Y=>Y.heap[b5]?=some (.cells (ze u q2 c2).toArray 24 (0,0))/\KidsT jS Y q2 u.kids/\Bw w Y,?_,?_⟩
  ·exact⟨i,rfl,hil,_,rfl,hc2,hbl,zl (X:=X) (v := .agg (ze u q2 c2).toArray) k24 rfl rfl rfl fun Y hbY fY sY=>⟨X.heap.size,(cvE rfl rfl),fY,hkk.kept hbY,zst hb hbY⟩⟩
  clear hb hc2 hbl hkk X;rintro b5 X ⟨f5,hkk,hb⟩;refine biE (fun h=>?_) fun h=>?_
  ·have h:(500:Int)<(n:Int):=dT h;rw [GC (by omega)] at hR;rw [hR];exact⟨rfl,hb⟩
  ·have h:¬ (500:Int)<(n:Int):=dF h;rw [GB (by omega)] at hR;have hle:=nodesA_le u;refine⟨_,rfl,za f5,hlt f5,cmo (ih u hum q2 c2 X (by omega) hkk) ?_⟩;rintro e Y ⟨rfl,bY⟩;exact⟨((n+nodesA u:Nat):Int),(zi (by omega)).trans (by omega),nxI (by omega) ⟨(i+1,n+nodesA u),(cvE rfl rfl),⟨zst hb bY,hil,hR,by show n+nodesA u<=_;omega⟩,zdc (by omega)⟩⟩
 ·have hc:¬ (i:Int)<(kids.length:Int):=dF hc;rw [JA (by omega),nodesAL] at hR;rw [hR];exact⟨rfl,hb⟩
theorem zgi:∀ t,zt2 t
 | .mk k s kids=>zte fun y hy=>zgi y
theorem zlZ:∀ (m:Nat) (t:Trm) (q:OA) (cap:Nat) (w:Wd),m<=1000->KidsT jS w q t.kids ->
  CB 8 #[.agg (ze t q cap).toArray,i64 (m:Nat)] w (.bool (zbt m t))
 | m,.mk k s kids,q,cap,w,hm,hK=>by
  refine zU 31 [.agg (ze (.mk k s kids) q cap).toArray,i64 (m:Nat)] (.c .p (.c (.s .p .p) (.s (.s .p (.b (.l (.s .p (.s .p (.s (.b (.c .p (.s .p .p))) .p)))))) .p))) Tryz.func8 ?_;obtain⟨L,hL⟩:=nm (w.heap.size);have hlen:kids.length<=140737488351232:=hK.inv.1;refine⟨Unit,fun _=>⟨[(1,i64 (m:Nat)),(2,At0 L)],[]⟩,fun _ X=>X.heap[L]?=some (.cells (ze (.mk k s kids) q cap).toArray 24 (0,0))/\Bw w X,⟨(),⟨.cons rfl (.cons (by rw [hL];rfl) .nil),rfl⟩,by rw [hL];exact zt w _,zba _ _⟩,?_⟩;rintro _ X ⟨f,hb⟩;obtain⟨R,hR⟩:=nm (zbt m (.mk k s kids));rw [<- hR];refine⟨Nat,fun _=>⟨[(1,i64 (m:Nat)),(2,At0 L)],[]⟩,fun m' X=>X.heap[L]?=some (.cells (ze (.mk k s kids) q cap).toArray 24 (0,0))/\Bw w X/\m=m'+1/\R=(kids.all (zbt m')&&decide (nodesA (.mk k s kids)<=500)),?_,?_⟩
  ·refine biE (fun h=>?_) fun h=>?_
   ·have h:(m:Int)=0:=dT h;obtain rfl:m=0:=(by omega);rw [zbt] at hR;rw [hR];exact brT ⟨rfl,hb⟩
   ·have h:¬ (m:Int)=0:=dF h;obtain⟨m',rfl⟩:∃ m',m=m'+1:=⟨m-1,by omega⟩;rw [zbt] at hR;refine⟨_,zc (za f) (i:=2) (v := .slice q kids.length cap) rfl,biE (fun h3=>?_) fun h3=>?_⟩
    ·have h3:(3:Int)<(kids.length:Int):=dT h3;rw [Ul (by omega),Un] at hR;rw [hR];exact⟨rfl,hb⟩
    ·have h3:¬ (3:Int)<(kids.length:Int):=dF h3;rw [Ux (p:=kids.length<=3) (by omega),UD] at hR;exact⟨m',(cvE rfl rfl),f,hb,rfl,hR⟩
  clear f hb hR X;rintro m' X ⟨f,hb,rfl,hR⟩;refine⟨_,zc (za f) (i:=2) (v := .slice q kids.length cap) rfl,Nat,fun i=>⟨[(1,i64 (m'+1:Nat)),(2,At0 L),(16,.slice q kids.length cap),(17,i64 (kids.length:Nat)),(18,.int .i64 (i:Nat))],[]⟩,fun i X=>X.heap[L]?=some (.cells (ze (.mk k s kids) q cap).toArray 24 (0,0))/\Bw w X/\i<=kids.length/\∀ j (h:j<kids.length),j<i->zbt m' kids[j]=true,fun i=>kids.length-i,0,(cvE rfl rfl),⟨f,hb,Gj _,fun j _ h=>GD h (Nat.not_lt_zero _)⟩,?_⟩;clear f hb X;rintro i X ⟨f,hb,hi,hj⟩;dsimp only at hi hj ⊢;refine biE (fun hc=>?_) fun hc=>?_
  ·have hc:(i:Int)<(kids.length:Int):=dT hc;have hil:i<kids.length:=by omega
   obtain⟨b,o,q2,c2,hq,hc2,hbl,hnl,hkk⟩:=KidsT.kid (l:=kids) (hK.kept hb) hil;subst hq;obtain⟨u,hu⟩:=nm (kids[i]);have hum:u∈kids:=by rw [hu];exact gM hil
   rw [<- hu] at hc2 hkk;refine⟨Nat,fun b5=>⟨[(1,i64 (m'+1:Nat)),(2,At0 L),(6,At0 b5),(16,.slice (some ⟨b,o,none⟩) kids.length cap),(17,i64 (kids.length:Nat)),(18,.int .i64 (i:Nat))],[]⟩,fun b5 Y=>Y.heap[L]?=some (.cells (ze (.mk k s kids) (some ⟨b,o,none⟩) cap).toArray 24 (0,0))/\Y.heap[b5]?=some (.cells (ze u q2 c2).toArray 24 (0,0))/\KidsT jS Y q2 u.kids/\Bw w Y,?_,?_⟩
   ·exact⟨i,rfl,hil,_,rfl,hc2,hbl,zl (X:=X) (v := .agg (ze u q2 c2).toArray) k24 rfl rfl rfl fun Y hbY fY sY=>⟨X.heap.size,(cvE rfl rfl),zb hbY f,fY,hkk.kept hbY,zst hb hbY⟩⟩
   clear f hb hc2 hbl hkk X;rintro b5 X ⟨f,f5,hkk,hb⟩;refine⟨_,rfl,za f5,hlt f5,((m':Nat):Int),(zi (by omega)).trans (by omega),cmo (zlZ m' u q2 c2 X (by omega) hkk) ?_⟩;rintro e Y ⟨rfl,bY⟩;refine biE (fun h=>?_) fun h=>?_
   ·have h:(!zbt m' u)=true:=h;have:kids.all (zbt m')=false:=KO.2 ⟨u,hum,by rw [zft h];decide⟩;rw [this,Un] at hR;rw [hR];exact⟨rfl,zst hb bY⟩
   ·have h:(!zbt m' u)=false:=h;refine nxI (by omega) ⟨i+1,(cvE rfl rfl),⟨zb bY f,zst hb bY,hil,fun j hj1 hj2=>?_⟩,zdc (by omega)⟩;by_cases e:j=i
    ·subst e;rw [<- hu];exact zed h
    ·exact hj j hj1 (by omega)
  ·have hc:¬ (i:Int)<(kids.length:Int):=dF hc;have hall:kids.all (zbt m')=true:=Ql.2 fun y hy=>by
    obtain⟨j,hj1,rfl⟩:=List.mem_iff_getElem.1 hy;exact hj j hj1 (by omega)
   rw [hall,UD] at hR;have hdep:depthT (.mk k s kids)<=1000000:=by
    rw [depthT];have:=zfI (l:=kids) (d:=m') fun t ht=>zcS m' t (Ql.1 hall t ht);omega
   refine⟨_,rfl,za f,hlt f,cmo (zgi (.mk k s kids) q cap X hdep (hK.kept hb)) ?_⟩;rintro e Y ⟨rfl,bY⟩;refine⟨rb ?_,zst hb bY⟩;rw [hR];show decide (((nodesA (.mk k s kids):Nat):Int)<=500)=_;rw [QJ];omega
end
abbrev zvY:=Trm×OA×Nat
section
variable {Q:Nat->Prop} {w X:Wd} {p:OA} {rows:List zvY}
structure PuB (w:Wd) (L:Nat) (t:Trm) (q:OA) (cap:Nat) (u:Trm) (qu:OA) (cu:Nat) (X:Wd):Prop where
 t:X.heap[L]?=some (.cells (ze t q cap).toArray 24 (0,0))
 u:X.heap[L+1]?=some (.cells (ze u qu cu).toArray 24 (0,0))
 z:X.heap[L+2]?=some (.cells (ze zT none 0).toArray 24 (0,0))
 b:Bw w X
 s:L+3<=X.heap.size
theorem PuB.upto {L:Nat} {t u:Trm} {q qu:OA} {cap cu:Nat} {Y:Wd} (h:PuB w L t q cap u qu cu X) (hL:w.heap.size<=L+3) (hb:Below (L+3) X Y):PuB w L t q cap u qu cu Y :=
 ⟨(hb.block _ (by omega)).trans h.t,(hb.block _ (by omega)).trans h.u,(hb.block _ (by omega)).trans h.z,h.b.trans (hb.mono hL),UX h.s hb.size⟩
end
end Go.Proofs.YtnadlhpkpnfmbaaGreatDoor
namespace Go.Proofs.YtnadlhpkpnfmbaaGreatDoor
open Go.Vc
def zfj:Bs:=[97,99,121,99,108,105,99,32,112,111,32,124,32,114,102,32,124,32,99,111,32,124,32,102,114,32,97,115,32,111,114,100,101,114]
abbrev nmT (s:Bs):Trm := .mk 1 s []
def zm5:Bs:=[97,99,121,99,108,105,99,32,40,112,111,32,124,32,114,102,41,43,32,97,115,32,120]
end Go.Proofs.YtnadlhpkpnfmbaaGreatDoor
namespace Go.Proofs.YtnadlhpkpnfmbaaGreatDoor
open Go.Vc Go.RowKit Go.Sei
def SPr (a b:Pr):Prop:=a.deep=b.deep/\a.most=b.most
theorem SPr.put {a b:Pr} (h:SPr a b) (s t:Bs):SPr (qW a s) (qW b t):=h
theorem zkv:ju []=some ([],fun _=>false):=by
 unfold ju;rw [GB (by decide),ql];rfl
theorem zbV {a:Trm} {x:ExD} {r:RelD} (h:zax a [] x=some r):(∃ m,chkT (fun _=>false) 0 a=(true,m))/\zY x=true/\¬ (prT ⟨[],0,0⟩ a).most > 50/\r=valT x (qr x) a:=by
 unfold zax at h;rw [zkv] at h;dsimp only at h
 split at h
 ·rename_i hc;rw [bAT] at hc
  split at h
  ·cases h
  ·rename_i hm;refine⟨⟨(chkT (fun _=>false) 0 a).2,?_⟩,hc.2,hm,(Ui h).symm⟩;rw [<- hc.1]
 ·cases h
end Go.Proofs.YtnadlhpkpnfmbaaGreatDoor
namespace Go.Sei
def zca (ns:List Nat):Nat:=ns.foldl (· * ·) 1
theorem zgG (ns:List Nat) (n:Nat):zca (ns++[n])=zca ns*n:=by
 unfold zca;rw [KV];rfl
def zlx (init:List UInt8) (Ts:List (List PathD)):List MixD:=(zbY (Ts.map List.length)).filterMap fun ds=>zkc init (zcc Ts ds)
theorem zgI:∀ (Ts:List (List PathD)) (ds:List Nat) (T:List PathD) (d:Nat),Ts.length=ds.length->zcc (Ts++[T]) (ds++[d])=zcc Ts ds++(match T[d]? with | some P=>[P] | none=>[])
 | [],[],T,d,_=>by
  show (match T[d]? with | some P=>[P] | none=>[])++[]=_;rw [QO];rfl
 | [],_::_,_,_,h=>by simp at h
 | _::_,[],_,_,h=>by simp at h
 | A::Ts,e::ds,T,d,h=>by
  show (match A[e]? with | some P=>[P] | none=>[])++zcc (Ts++[T]) (ds++[d])=((match A[e]? with | some P=>[P] | none=>[])++zcc Ts ds)++_;rw [zgI Ts ds T d (by simpa using h),KR]
theorem zlm (ns:List Nat) (n:Nat):qg (ns++[n])=qg ns*n:=by
 rw [zdI];show _*(n*1)=_;rw [Gi]
theorem ziq:∀ (ns:List Nat) (a:Nat),ns.foldl (· * ·) a=a*qg ns
 | [],a=>(Gi a).symm
 | n::ns,a=>by
  show ns.foldl (· * ·) (a*n)=a*(n*qg ns);rw [ziq ns,UM]
theorem znu:∀ ns:List Nat,qg ns.reverse=zca ns:=fun ns=>by
 have h:∀ l:List Nat,qg l.reverse=qg l:=fun l=>by
  induction l with
  | nil=>rfl
  | cons n l ih =>
   rw [KY,zlm,ih];exact UY _ _
 rw [h];unfold zca;rw [ziq,Nat.one_mul]
end Go.Sei
namespace Go.Proofs.YtnadlhpkpnfmbaaGreatDoor
open Go.Vc Go.RowKit Go.Sei
theorem zr3 {b o:Nat} {w:Wd}:Calls PG 90 #[.pointer (some ⟨b,o,none⟩)] w fun e w'=>e = .returned (.func (.func 141) #[] #[At0 w.heap.size])/\w'.heap[w.heap.size]?=some (.cells #[.pointer (some ⟨b,o,none⟩)] 244 (0,0))/\w'.heap.size=w.heap.size+1/\Bw w w':=by
 refine zI 4 [.pointer (some ⟨b,o,none⟩)] Tryz.func90 ?_;exact⟨rfl,zt w _,wz _ _,(zba w _)⟩
def zsj (B:Nat) (F:Nat->Prop) (Y:Wd) (x:zf8):Prop:=OwnS evE 158 B Y x.2.1 x.2.2 x.1.ev/\∀ a,x.2.1=some a->F a.block
theorem zfx (B:Nat):ziA 37 89 (zsj B):=by
 rintro F G Y Z x ⟨h1,h2⟩ hs hg;refine⟨h1.same fun a ha=>?_,fun a ha=>hg _ (h2 a ha)⟩;obtain⟨_,_,cur,hc⟩:=zy h1 ha;exact hs _ cur _ (h2 a ha) hc (by decide) (by decide)
theorem zkZ {B B1 bx c0:Nat} {p0:OA} {l0:List zf8} {xs:List ExD} {w W0:Wd} {Rd:Nat->Prop} {pm:Value} (ho:OwnS exE 37 B w p0 c0 l0) (hn:∀ x∈l0,OwnS evE 158 B w x.2.1 x.2.2 x.1.ev) (hB:B<=w.heap.size)
  (hI:zqz PG 141 [At0 bx] xs W0 Rd (StX B1) GvX) (hW0:W0.heap.size<=w.heap.size) (hRd:∀ k,Rd k->k<W0.heap.size/\w.heap[k]?=W0.heap[k]?) (hRB:∀ k,Rd k->k<B\/k=bx) (fb:w.heap[bx]?=some (.cells #[pm] 244 (0,0))) (hB1:B<=B1) (hlen:l0.length+xs.length<=30000) :
  Calls PG 89 #[.slice p0 l0.length c0,.func (.func 141) #[] #[At0 bx]] w fun e w'=>(∃ (new:List zf8) (p:OA) (c:Nat),e = .returned (.slice p (l0++new).length c)/\new.map (·.1)=xs/\OwnS exE 37 B w' p c (l0++new)/\∀ x∈l0++new,OwnS evE 158 B w' x.2.1 x.2.2 x.1.ev)/\Below B w w':=by
 refine zU 13 [.slice p0 l0.length c0,.func (.func 141) #[] #[At0 bx]] (.c .p .p) Tryz.func89 ?_;obtain⟨L,hL⟩:=nm (w.heap.size);refine⟨Unit,fun _=>⟨[(1,.func (.func 141) #[] #[At0 bx]),(2,At0 L)],[]⟩,fun _ X=>X.heap[L]?=some (.cells [.slice p0 l0.length c0].toArray 89 (0,0))/\X.heap.size=L+1/\Bw w X,?_,?_⟩
 ·exact⟨(),⟨.cons rfl (.cons (by rw [hL];rfl) .nil),rfl⟩,by rw [hL];exact zt w _,by rw [hL];exact wz _ _,(zba w _)⟩
 rintro _ W ⟨fL,sW,hbW⟩;have hbxw:=hlt fb;obtain⟨F0,hF0⟩:∃ F0:Nat->Prop,F0=fun k=>k=L\/(∃ a,p0=some a/\k=a.block)\/∃ x∈l0,∃ a,x.2.1=some a/\k=a.block:=⟨_,rfl⟩;have hF0B:∀ k,F0 k->B<=k/\k<W.heap.size/\(k≠L->k≠bx):=by
  intro k hk;rw [hF0] at hk;rcases hk with rfl | ⟨a,ha,rfl⟩ | ⟨x,hx,a,ha,rfl⟩
  ·exact⟨by omega,by omega,fun h=>(h rfl).elim⟩
  ·obtain⟨h1,h2,cur,h3⟩:=zy ho ha;exact⟨h1,by omega,fun _ e=>by rw [e,fb] at h3;simp at h3⟩
  ·obtain⟨h1,h2,cur,h3⟩:=zy (hn x hx) ha;exact⟨h1,by omega,fun _ e=>by rw [e,fb] at h3;simp at h3⟩
 have hG0:Gath exE 37 89 B W.heap.size L W (zsj B) l0 F0 W:=by
  refine⟨Gh _,by rw [hF0];exact .inl rfl,fun k hk=>(hF0B k hk).2.1,⟨p0,c0,fL,ho.below hbW,fun a ha=>by rw [hF0];exact .inr (.inl ⟨a,ha,rfl⟩)⟩,fun x hx=>⟨(hn x hx).below hbW,fun a ha=>by rw [hF0];exact .inr (.inr ⟨x,hx,a,ha,rfl⟩)⟩,Gm _ _⟩
 refine zs2 (za9 _) rfl (lb := #[At0 bx]) rfl rfl hI (fun pre vs W k ⟨x,q,c,h1,h2,h3⟩ ⟨x',a,c',h4,h5⟩=>?_) (by have:=hbW.size;omega) (fun k hk=>⟨(hRd k hk).1,?_⟩) (fun pre vs W ⟨x,q,c,_,h,_⟩=>by rw [h];rfl) (by decide)
  F0 (fun pre F Y=>∃ xs',(∃ new,xs'=l0++new/\new.map (·.1)=pre/\new.length<=xs.length)/\Gath exE 37 89 B W.heap.size L W (zsj B) xs' F Y) (fun k hk=>?_) (Gath.iter (zfx B) (by omega)) ⟨l0,⟨[],by simp,rfl,Gj _⟩,hG0⟩ ?_ ?_
 ·rw [h2] at h4;have h6:exC x q c=exC x' (some a) c':=by
   have h7:=Value.agg.inj (Jv h4);simpa using h7
  have h8:Value.slice q x.ev.length c=Value.slice (some a) x'.ev.length c':=Jv h6;have h9:q=some a:=by injection h8
  obtain⟨_,_,cur,hc⟩:=zy h3 h9;rw [h5];exact⟨_,_,_,hc⟩
 ·rw [<- (hRd k hk).2];exact hbW.block k (by have:=(hRd k hk).1;omega)
 ·intro h;obtain⟨h1,h2,h3⟩:=hF0B k h;have h4:=(hRd k hk).1;rcases hRB k hk with h5 | h5
  ·omega
  ·exact h3 (by omega) h5
 ·rintro yl pre x vs F Y hyl hpre ⟨xs',⟨new,rfl,hnew',hnl⟩,hG⟩ ⟨x',q,c,hlast,rfl,oq⟩ hgv hfy ⟨lo,hlo⟩;have hxx:x=x':=by simpa using hlast
  subst hxx;have hYs:=hG.size;refine zl (X:=Y) (v := .agg (exC x q c).toArray) k37 (zH _ _ _) zbG (zcT _ _ _) fun Z hbZ fZ sZ=>?_;have fZ:ExH Z Y.heap.size x q c:=fZ;obtain⟨F1,hF1⟩:∃ F1:Nat->Prop,F1=fun k=>F k\/GvX [.agg (exC x q c).toArray] k:=⟨_,rfl⟩;rw [<- hF1];have hq1:∀ a,q=some a->F1 a.block:=fun a ha=>by
   rw [hF1];exact .inr ⟨x,a,c,by rw [ha],rfl⟩
  have hgq:∀ k,GvX [.agg (exC x q c).toArray] k->∃ a,q=some a/\k=a.block:=by
   rintro k ⟨x',a,c',h4,h5⟩;have h6:exC x q c=exC x' (some a) c':=by
    have h7:=Value.agg.inj (Jv h4);simpa using h7
   have h8:Value.slice q x.ev.length c=Value.slice (some a) x'.ev.length c':=Jv h6;have h9:q=some a:=by injection h8
   exact⟨a,h9,h5⟩
  have hlt1:∀ k,F1 k->k<Y.heap.size:=fun k hk=>by
   rw [hF1] at hk;rcases hk with hk | hk
   ·exact hG.lt k hk
   ·obtain⟨a,ha,rfl⟩:=hgq k hk;exact (zy oq ha).2.1
  have hFF:∀ k,F k->F1 k:=fun k hk=>by rw [hF1];exact .inl hk
  have hG1:Gath exE 37 89 B W.heap.size L W (zsj B) (l0++new) F1 Z:=by
   obtain⟨p,c',h1,h2,h3⟩:=hG.row;have sZ:=hbZ.size;exact⟨by omega,hFF _ hG.inL,fun k hk=>by have:=hlt1 k hk;omega,⟨p,c',zb hbZ h1,h2.below hbZ,fun a ha=>hFF _ (h3 a ha)⟩,fun y hy=>⟨(hG.nest y hy).1.below hbZ,fun a ha=>hFF _ ((hG.nest y hy).2 a ha)⟩,hG.old.trans (hbZ.mono (by omega))⟩
  refine⟨rfl,F1,KeepsG.below hbZ fun k hk => .inl hk,⟨_,⟨new,rfl,hnew',hnl⟩,hG1⟩,?_⟩;rintro O Y2 hY2 ⟨xs2,⟨new2,rfl,hnew2,hnl2⟩,hG2⟩;clear hG1 hnew' hnl hG;have hYl:=hlt hlo;have fY:ExH Y2 Y.heap.size x q c:=by rw [hY2];exact (zj (by omega)).trans fZ
  have oq2:OwnS evE 158 B1 Y2 q c x.ev:=by
   rw [hY2];refine (oq.below hbZ).same fun a ha=>zj fun e=>?_;obtain⟨_,_,cur,hc⟩:=zy oq ha;rw [e,hlo] at hc
   cases hc
  obtain⟨p,c',h4,h5,h6⟩:=hG2.row;refine⟨_,zc (za h4) (i:=0) rfl,exC x q c,zH _ _ _,za fY,hlt fY,?_⟩;obtain⟨nx,hnx⟩:∃ nx:zf8,nx=(x,q,c):=⟨_,rfl⟩;have hen:exC x q c=exE.enc nx:=by rw [hnx];rfl
  have hpl:pre.length<xs.length:=by
   obtain⟨t,ht⟩:=hpre;rw [<- ht];simp only [lap,Qu];omega
  have hn2:new2.length=pre.length:=by rw [<- hnew2,QS]
  refine⟨⟨by decide,by decide,zbG⟩,exE.enc nx,by rw [<- hen];exact zbh (zH _ _ _) zbG,?_⟩;have hw2:W.heap.size<=Y2.heap.size:=hG2.size;obtain⟨v,Y5,hrun,S,hrun2,F',hG',hK',hFF'⟩:=hG2.stepX (P:=PG) (ty:=89) (cap1:=1) (zfx B) (by decide) Tryz.underlying89 k37 rfl rfl (by show _=333;exact zbG) k89 rfl (by omega) (by omega) (Gm _ _) nx (by rw [lap];omega) (by rw [lap];show (_+1)*2416<=_;omega)
   (fun G Z _ _ h3 h4=>zfx B F1 G Y2 Z nx ⟨by rw [hnx];exact oq2.lower hB1,fun a ha=>by rw [hnx] at ha;exact hq1 a ha⟩ h3 h4) p c' h4
  unfold zeb zas;exact SatR.mk hrun (SatR.mk hrun2 ⟨F',⟨_,⟨new2++[nx],by rw [KR],by rw [QV,hnew2,hnx];rfl,by rw [lap];show _+1<=_;omega⟩,hG'⟩,hK'⟩)
 ·rintro D F Y hD hfD ⟨xs',⟨new,rfl,hnew',hnl⟩,hG⟩ hdef;obtain⟨p,c',h4,h5,h6⟩:=hG.row;refine⟨_,zc (za h4) (i:=0) rfl,_,rfl,hdef,?_⟩;have kp:∀ a:Addr,F a.block->(Y.putObj D (.deferred none)).heap[a.block]?=Y.heap[a.block]?:=fun a h2=>zj fun e=>by rw [<- e] at hfD;exact hfD h2
  exact⟨⟨new,p,c',rfl,hnew',h5.same fun a ha=>kp a (h6 a ha),fun x hx=>(hG.nest x hx).1.same fun a ha=>kp a ((hG.nest x hx).2 a ha)⟩,z8 ((hbW.mono hB).trans hG.old) (by omega) _⟩
structure MixX where
 m:MixD
 q:OA
 c:Nat
 p1:OA
 c1:Nat
 p2:OA
 c2:Nat
 p3:OA
 c3:Nat
 xs:List zaI
 ys:List zaI
def znJ (x:MixX):List Value:=exC x.m.base x.q x.c++[.slice x.p1 x.m.rs.length x.c1,.slice x.p2 x.xs.length x.c2,.slice x.p3 x.ys.length x.c3]
theorem zpo (x:MixX):(znJ x).length=336:=by
 unfold znJ;rw [lap,zH];rfl
theorem zkd (x:MixX):(znJ x).all Value.oneCell'=true:=by
 unfold znJ;rw [QN,zcT];rfl
def zi1:Enc MixX:=⟨znJ,336,zpo,by decide,fun a u hu=>Ql.1 (zkd a) u hu⟩
structure NInM (B:Nat) (F:Nat->Prop) (Y:Wd) (x:MixX):Prop where
 e2:x.xs.map (·.1)=x.m.rs.map (·.2)
 e3:x.ys.map (·.1)=x.m.wr
 ev:RowIn evE 158 B F Y x.q x.c x.m.base.ev
 r1:RowIn zC 3 B F Y x.p1 x.c1 (x.m.rs.map (·.1))
 r2:RowIn q6 128 B F Y x.p2 x.c2 x.xs
 n2:∀ y∈x.xs,RowIn zC 3 B F Y y.2.1 y.2.2 y.1
 r3:RowIn q6 128 B F Y x.p3 x.c3 x.ys
 n3:∀ y∈x.ys,RowIn zC 3 B F Y y.2.1 y.2.2 y.1
theorem NInM.same {B:Nat} {F G:Nat->Prop} {Y Z:Wd} {x:MixX} (h:NInM B F Y x) (k:∀ {α:Type} {E:Enc α} {T c:Nat} {q:OA} {l:List α},T≠172->T≠166->T≠4->RowIn E T B F Y q c l->RowIn E T B G Z q c l):NInM B G Z x :=
 ⟨h.e2,h.e3,k (by decide) (by decide) (by decide) h.ev,k (by decide) (by decide) (by decide) h.r1,k (by decide) (by decide) (by decide) h.r2,fun y hy=>k (by decide) (by decide) (by decide) (h.n2 y hy),k (by decide) (by decide) (by decide) h.r3,fun y hy=>k (by decide) (by decide) (by decide) (h.n3 y hy)⟩
theorem NInM.lower {B B':Nat} {F:Nat->Prop} {Y:Wd} {x:MixX} (h:NInM B F Y x) (hB:B'<=B):NInM B' (fun k=>B'<=k) Y x:=by
 have k:∀ {α:Type} {E:Enc α} {T c:Nat} {q:OA} {l:List α},RowIn E T B F Y q c l->RowIn E T B' (fun k=>B'<=k) Y q c l:=fun {α E T c q l} hr=>⟨hr.own.lower hB,fun a ha=>(zy (hr.own.lower hB) ha).1⟩;exact⟨h.e2,h.e3,k h.ev,k h.r1,k h.r2,fun y hy=>k (h.n2 y hy),k h.r3,fun y hy=>k (h.n3 y hy)⟩
theorem zic (B:Nat):ziA 172 166 (NInM B):=by
 rintro F G Y Z x h hs hg;refine h.same fun {α E T c q l} t1 t2 _ hr=>⟨hr.own.same fun a ha=>?_,fun a ha=>hg _ (hr.inF a ha)⟩;obtain⟨_,_,cur,hc⟩:=zy hr.own ha;exact hs _ cur _ (hr.inF a ha) hc t1 t2
abbrev TpR:=List zdE×OA×Nat
def tpE:Enc TpR where
 sz:=1
 enc x:=[.slice x.2.1 x.1.length x.2.2]
 len x:=rfl
 one x v hv:=by
  simp at hv;subst hv;rfl
 pos:=by decide
structure MxS (B:Nat) (Z:Wd) (L bP:Nat) (ss:List Nat) (ps:OA) (cs:Nat) (ts:List TpR) (pT:OA) (cT:Nat):Prop where
 f0:Z.heap[L]?=some (.cells #[At0 bP] 169 (0,0))
 f1:Z.heap[L+1]?=some (.cells #[.slice none 0 0] 166 (0,0))
 f2:Z.heap[L+2]?=some (.cells #[.bool false] 4 (0,0))
 f3:Z.heap[L+3]?=some (.cells #[.slice pT ts.length cT] 232 (0,0))
 own:OwnS zC 3 B Z ps cs ss
 rk:OwnS tpE 233 B Z pT cT ts
 n1:∀ z∈ts,OwnS jE 241 B Z z.2.1 z.2.2 z.1
 n2:∀ z∈ts,∀ x∈z.1,PthO B Z x
theorem PthO.same {B:Nat} {Y Z:Wd} {x:zdE} (h:PthO B Y x) (k:∀ {α:Type} {E:Enc α} {T c:Nat} {q:OA} {l:List α},T=158\/T=326->OwnS E T B Y q c l->OwnS E T B Z q c l):PthO B Z x :=
 ⟨k (.inl rfl) h.1,k (.inr rfl) h.2.1,k (.inr rfl) h.2.2.1,k (.inr rfl) h.2.2.2⟩
theorem MxS.below {B:Nat} {Z Y:Wd} {L bP:Nat} {ss:List Nat} {ps:OA} {cs:Nat} {ts:List TpR} {pT:OA} {cT:Nat} (h:MxS B Z L bP ss ps cs ts pT cT) (hb:Bw Z Y):MxS B Y L bP ss ps cs ts pT cT :=
 ⟨zb hb h.f0,zb hb h.f1,zb hb h.f2,zb hb h.f3,h.own.below hb,h.rk.below hb,fun z hz=>(h.n1 z hz).below hb,fun z hz x hx=>(h.n2 z hz x hx).same fun {α E T c q l} _ ho=>ho.below hb⟩
theorem MxS.size {B:Nat} {Z Y:Wd} {L bP n:Nat} {ss:List Nat} {ps ps':OA} {cs cs':Nat} {ts:List TpR} {pT:OA} {cT:Nat} (h:MxS B Z L bP ss ps cs ts pT cT) (ho:OwnS zC 3 B Y ps' cs' (ss++[n])) (g:Z.grownBy Y (ps.map Addr.block)):MxS B Y L bP (ss++[n]) ps' cs' ts pT cT :=
 ⟨qi h.f0 h.own (by decide) g,qi h.f1 h.own (by decide) g,qi h.f2 h.own (by decide) g,qi h.f3 h.own (by decide) g,ho,zag h.rk h.own (by decide) g,fun z hz=>zag (h.n1 z hz) h.own (by decide) g,fun z hz x hx=>(h.n2 z hz x hx).same fun {α E T c q l} ht hoo=>zag hoo h.own (by rcases ht with rfl | rfl <;> decide) g⟩
theorem zvU {B c:Nat} {V1:Wd} {p:OA} {l:List TpR} {y:TpR} {a:Addr} (ho:OwnS tpE 233 B V1 p c l) (ha:zq V1 a ([y].flatMap tpE.enc)) (hB:B<=V1.heap.size) (hl:l.length<=100000) {K:Value->Wd->Prop}
  (h:∀ p' c' w',OwnS tpE 233 B w' p' c' (l++[y])->V1.grownBy w' (p.map Addr.block)->(∀ a,p'=some a->p=some a\/a.block=V1.heap.size)->K (.slice p' (l++[y]).length c') w') :
  SatR ((Builtin.append_ #[232,232] 232 #[.slice p l.length c,.slice (some a) 1 1]).run PG V1) K :=
 qQ (E:=tpE) (T:=233) (B:=B) (l:=l) (news:=[y]) (cap:=c) (m:=1) Tryz.underlying232 zrt rfl rfl rfl ho rfl ha hB (by omega) (by show (l.length+1)*24<=_;omega) fun p' c' w' a1 a2 _ a4=>h p' c' w' a1 (by rw [zaz] at a2;exact a2) a4
theorem zvW {B c:Nat} {V1:Wd} {p:OA} {l:List zdE} {y:zdE} {a:Addr} (ho:OwnS jE 241 B V1 p c l) (ha:zq V1 a ([y].flatMap jE.enc)) (hB:B<=V1.heap.size) (hl:l.length<=100000) {K:Value->Wd->Prop}
  (h:∀ p' c' w',OwnS jE 241 B w' p' c' (l++[y])->V1.grownBy w' (p.map Addr.block)->(∀ a,p'=some a->p=some a\/a.block=V1.heap.size)->K (.slice p' (l++[y]).length c') w') :
  SatR ((Builtin.append_ #[233,233] 233 #[.slice p l.length c,.slice (some a) 1 1]).run PG V1) K :=
 qQ (E:=jE) (T:=241) (B:=B) (l:=l) (news:=[y]) (cap:=c) (m:=1) Tryz.underlying233 znO rfl rfl rfl ho rfl ha hB (by omega) (by show (l.length+1)*104<=_;omega) fun p' c' w' a1 a2 _ a4=>h p' c' w' a1 (by rw [zaz] at a2;exact a2) a4
structure ThrQ (V:List UInt8) (l:List InsD):Prop where
 l12:l.length<=12
 ex:∀ x∈l,zdV x
 ok:jK l 6=true
 m:(zan l (ded V)).length<=4096
abbrev zM (V:List UInt8) (l:List InsD):List PathD:=(zan l (ded V)).map zcw
def wrE (R:RunD) (i:Nat) (v:UInt8):Bool:=(List.range i).any fun j=>decide ((R.ev j).k=2)&&decide ((R.ev j).v=v)
def wrL (rs:List RunD) (v:UInt8):Bool:=rs.any fun R=>wrE R R.many v
theorem zk2 (rs:List RunD):zad rs=qh.filter (wrL rs):=rfl
def wrC (f:UInt8->Bool):List Value:=seg 256 fun i => .bool (f (UInt8.ofNat i))
theorem zk3 (f:UInt8->Bool) {i:Nat} (h:i<256):(wrC f)[i]?=some (.bool (f (UInt8.ofNat i))):=zdi _ h
theorem zqG (f:UInt8->Bool) (x:UInt8):(wrC f).set x.toNat (.bool true)=wrC fun v=>f v||decide (x=v):=by
 have hx:=x.toNat_lt;apply KS;intro j;by_cases hj:j<256
 ·rw [zk3 _ hj];by_cases e:x.toNat=j
  ·subst e;rw [JC (by unfold wrC;rw [zK];exact hx),UInt8.ofNat_toNat,Ux rfl,Bool.or_true]
  ·rw [JV e,zk3 _ hj];have:x≠UInt8.ofNat j:=fun h=>e (by rw [h,KJ];omega);rw [Ul this,UC]
 ·rw [JJ (by unfold wrC;rw [QU,zK];omega),JJ (by unfold wrC;rw [zK];omega)]
theorem zl7 (f:UInt8->Bool):(wrC f).length=256:=zK _ _
theorem zoo (rs:List RunD) (R:RunD) (v:UInt8):wrL (rs++[R]) v=(wrL rs v||wrE R R.many v):=by
 unfold wrL;rw [List.any_append];simp
theorem zop (R:RunD) (i:Nat) (v:UInt8):wrE R (i+1) v=(wrE R i v||(decide ((R.ev i).k=2)&&decide ((R.ev i).v=v))):=by
 unfold wrE;rw [Ua,List.any_append];simp
theorem zlD (p:UInt8->Bool) (x:UInt8):[x].filter p=if p x=true then [x] else []:=by
 rw [Qp,List.filter_nil]
theorem zqc {k:Nat} (h:k<256):∃ hl:k<qh.length,qh[k]=UInt8.ofNat k:=by
 have hl:qh.length=256:=by unfold qh;rw [QS,KX]
 refine⟨by rw [hl];exact h,?_⟩;simp [qh]
theorem zvo:List.replicate 256 (Value.bool false)=wrC fun _=>false:=by kernel_rfl
section
variable {l:List InsD} {dom:List UInt8} {q p:OA} {cap cd:Nat} {w:Wd}
theorem zom (hl:SlR qz w q l) (hp:SlR zO w p dom) (h12:l.length<=12) (hx:∀ x∈l,zdV x) (hR:∀ R∈zan l dom,R.many<=24) (hm:(zan l dom).length<=4096) (hqb:∀ a,q=some a->a.block<w.heap.size) (hpb:∀ a,p=some a->a.block<w.heap.size) (hdl:dom.length<=1000) :
  Calls PG 137 #[.slice q l.length cap,.slice p dom.length cd] w fun e w'=>(∃ (p':OA) (c':Nat),e = .returned (.tuple #[.slice p' (zad (zan l dom)).length c',.bool true])/\OwnS zO 5 w.heap.size w' p' c' (zad (zan l dom)))/\Bw w w':=by
 refine zU 55 [.slice q l.length cap,.slice p dom.length cd] (.c .p (.c .p (.c .p (.c .p (.s .p (.c .p .p)))))) Tryz.func137 ?_;obtain⟨L,hL⟩:=nm (w.heap.size);refine⟨Unit,fun _=>⟨[(0,.slice q l.length cap),(1,.slice p dom.length cd),(4,AtR L),(5,AtR (L+1))],[]⟩,fun _ X=>X.heap[L]?=some (.cells #[.slice none 0 0] 72 (0,0))/\X.heap[L+1]?=some (.cells #[.bool false] 4 (0,0))/\X.heap.size=L+2/\Bw w X,?_,?_⟩
 ·have s1:=wz w (.cells #[.slice none 0 0] 72);have h2:=zt (w.alloc (.cells #[.slice none 0 0] 72)) (.cells #[.bool false] 4);have s2:=wz (w.alloc (.cells #[.slice none 0 0] 72)) (.cells #[.bool false] 4);rw [s1] at h2 s2;refine⟨(),⟨.cons rfl (.cons rfl (.cons (by rw [hL];rfl) (.cons (by rw [hL,<- s1];rfl) .nil))),rfl⟩,?_,?_,?_,?_⟩
  ·rw [hL];exact qe _ (zt w _)
  ·rw [hL];exact h2
  ·rw [hL];exact s2
  ·exact ((zba w _)).alloc (by simp) _
 rintro _ X ⟨f0,f1,sX,hbX⟩;refine⟨Unit,fun _=>⟨[(0,.slice q l.length cap),(1,.slice p dom.length cd),(4,AtR L),(5,AtR (L+1)),(6,AtR (L+2))],[]⟩,fun _ Y=>Y.heap[L+2]?=some (.cells (wrC fun _=>false).toArray 281 (0,0))/\Y.heap.size=L+3/\Bw X Y,?_,?_⟩
 ·refine⟨(),⟨.cons rfl (.cons rfl (.cons rfl (.cons rfl (.cons (by rw [<- sX];rfl) .nil)))),rfl⟩,?_,?_,?_⟩
  ·rw [<- sX,<- zvo];exact zt X _
  ·have:=wz X (.cells (List.replicate 256 (Value.bool false)).toArray 281);rw [sX] at this;exact this
  ·exact (zba X _)
 rintro _ Y ⟨f2,sY,hbY⟩;refine⟨Unit,fun _=>⟨[(0,.slice q l.length cap),(1,.slice p dom.length cd),(4,AtR L),(5,AtR (L+1)),(6,AtR (L+2)),(7,AtR (L+3))],[]⟩,fun _ Z=>Z.heap[L+3]?=some (.cells [i64 (0:Nat)].toArray 3 (0,0))/\Z.heap.size=L+4/\Bw Y Z,?_,?_⟩
 ·refine zl (X:=Y) (v:=i64 0) k3 rfl rfl rfl fun Z hbZ fZ sZ=>?_;rw [sY] at fZ sZ;exact⟨(),⟨.cons rfl (.cons rfl (.cons rfl (.cons rfl (.cons rfl (.cons (by rw [<- sY];rfl) .nil))))),rfl⟩,fZ,sZ,hbZ⟩
 rintro _ V ⟨f3,sV,hbV⟩;have hXV:Bw X V:=zst hbY hbV;have hwV:=zst hbX hXV;have f0:=zb hXV f0;have f1:=zb hXV f1;have f2:=zb hbV f2;clear hbX hbY hbV hXV;obtain⟨xs,hxs⟩:=nm (zan l dom);rw [<- hxs] at hR hm ⊢;refine⟨Nat,fun D1=>⟨[(4,AtR L),(5,AtR (L+1)),(6,AtR (L+2))],[{ target := .collected D1,args := #[] }]⟩,fun D1 U=>U.heap[L+2]?=some (.cells (wrC (wrL xs)).toArray 281 (0,0))/\U.heap[D1]?=some (.deferred (some []))/\L+2<D1/\Below (L+2) V U,?_,?_⟩
 ·refine cmo zjb ?_;rintro e W ⟨rfl,fi,fd,sW,hbW⟩;have hwW:=zst hwV hbW;have hI:=zlH (q:=q) (p:=p) (hl.below hwW) (hp.below hwW) fi fd (fun a ha=>by have:=hqb a ha;have:=hwW.size;omega) (fun a ha=>by have:=hpb a ha;have:=hwW.size;omega) h12 hx hdl;rw [<- hxs] at hI;obtain⟨J,hJ⟩:∃ J:List RunD->Wd->Prop,J=fun pre Y=>W.heap.size<=Y.heap.size/\Y.heap[L+2]?=some (.cells (wrC (wrL pre)).toArray 281 (0,0))/\Y.heap[L+3]?=some (.cells [i64 pre.length].toArray 3 (0,0))/\Below (L+2) W Y:=⟨_,rfl⟩;obtain⟨F0,hF0⟩:∃ F0:Nat->Prop,F0=fun k=>k=L+2\/k=L+3:=⟨_,rfl⟩;refine zcM (za9 _) rfl (lb := #[AtR V.heap.size,AtR (V.heap.size+1)]) rfl rfl hI (Gh _) (fun k hk=>⟨?_,rfl⟩) (fun pre vs W ⟨R,b,_,h,_⟩=>by rw [h];rfl) (by decide)
   F0 (fun pre F Y=>F=F0/\J pre Y) (fun _ _ _ _=>False) (fun k hk=>?_)
   (joG (F:=F0) (J:=J) (fun k h=>by rw [hF0] at h;omega) (fun s A h=>by rw [hJ] at h;exact h.1) (fun pre A B h hb=>by
    rw [hJ] at h ⊢;obtain⟨h1,h2,h3,h4⟩:=h;exact⟨UX h1 hb.size,zak hb (by omega) h2,zak hb (by omega) h3,h4.trans (hb.mono (by omega))⟩))
   (fun ex=>⟨fun _ _ _ _ h=>h.elim,fun _ _ _ _ h=>h.elim⟩) ⟨rfl,by rw [hJ];exact⟨Gh _,zb hbW f2,zb hbW f3,Gm _ _⟩⟩ ?_ ?_ ?_
  ·rcases hk with ((rfl | rfl) | ⟨a,ha,rfl⟩ | ⟨a,ha,rfl⟩) | h
   ·omega
   ·omega
   ·have:=hqb a ha;have:=hwW.size;omega
   ·have:=hpb a ha;have:=hwW.size;omega
   ·exact h.elim
  ·rw [hF0];rcases hk with (rfl | rfl) | ⟨a,ha,rfl⟩ | ⟨a,ha,rfl⟩
   ·omega
   ·omega
   ·have:=hqb a ha;omega
   ·have:=hpb a ha;omega
  ·rintro yl pre x vs F Y hyl hpre hJ0 ⟨R,b,hlast,rfl,fR⟩ hfy ⟨lo,hlo⟩;have hxR:x=R:=by simpa using hlast
   subst hxR;refine⟨rfl,F,KeepsG.refl _ _,hJ0,?_⟩;rintro o Y2 hY2 ⟨rfl,hJ2⟩;rw [hJ] at hJ2;obtain⟨h1,h2,h3,h4⟩:=hJ2;have hbl:b≠yl:=fun e=>by
    rw [e] at fR;rw [fR] at hlo
    cases hlo
   have fR2:zaF Y2 b x:=by rw [hY2];exact (zj hbl).trans fR
   have r1:=hR x (hpre.subset (by simp));have hpl:pre.length<xs.length:=by
    obtain⟨t,ht⟩:=hpre;rw [<- ht];simp only [lap,Qu];omega
   refine⟨_,zc (za h3) (i:=0) rfl,?_⟩;refine brN (Ul (by omega)) ?_;refine⟨_,zc (za h3) (i:=0) rfl,?_⟩;refine⟨((pre.length+1:Nat):Int),(zi (by omega)).trans (by omega),?_⟩;refine zw k3 h3 (o:=0) (v:=i64 (pre.length+1:Nat)) rfl rfl (by show 0<1;decide) rfl fun Z fZ gZ sZ=>?_;have fRZ:zaF Z b x:=(gZ.block b (hlt fR2) (fun e=>by
    have e:b=L+3:=(by simpa using e);rw [e] at fR2;rw [fR2] at h3;simp at h3)).trans fR2
   have f2Z:=(gZ.block (L+2) (hlt h2) (by simp)).trans h2;have kZ:KeepsG F F Y2 Z:=KeepsG.grown gZ (by rw [hF0];exact .inr rfl);have bZ:Below (L+2) W Z:=h4.trans (zo gZ (by omega) (by omega));refine DrawE.ord [] [0,1,2,3,4,5,6,7,8,9] (by kernel_rfl) ?_;have hdZ:Bw Z Z.drew:=(Gm _ _).drew;refine⟨_,zc (za (hdr fRZ)) (i:=18) (zbM x),?_⟩;refine⟨x.many,rfl,r1,?_⟩;have ecut:q8 (some ⟨b,0+19,none⟩) 24 0 7=some ⟨b,19,none⟩:=by rw [zcW,Gb]
   refine⟨Nat,fun i=>⟨[(6,AtR (L+2)),(7,AtR (L+3)),(29,.slice (some ⟨b,19,none⟩) (x.many-0) (24-0)),(30,i64 (x.many:Nat)),(31,i64 (i:Nat))],[]⟩,
    fun i T=>i<=x.many/\T.heap[L+2]?=some (.cells (wrC fun v=>wrL pre v||wrE x i v).toArray 281 (0,0))/\zaF T b x/\T.heap[L+3]?=some (.cells [i64 (pre.length+1:Nat)].toArray 3 (0,0))/\KeepsG F F Y2 T/\Below (L+2) W T,fun i=>x.many-i,0,
    ⟨.cons rfl (.cons rfl (.cons (by rw [<- ecut];rfl) (.cons rfl (.cons rfl .nil)))),rfl⟩,⟨Gj _,?_,hdr fRZ,hdr fZ,kZ.trans (KeepsG.below hdZ fun k h => .inl h),bZ.drew⟩,?_⟩
   ·have e:(fun v=>wrL pre v||wrE x 0 v)=wrL pre:=by
     funext v;show (wrL pre v||false)=_;rw [UC]
    rw [e];exact f2Z
   rintro i T ⟨hi,t2,tR,t3,kT,bT⟩;have hTs:=kT.size;refine biE (fun hc=>?_) fun hc=>?_
   ·have hc:(i:Int)<(x.many:Int):=dT hc;have him:i<x.many:=(by omega);refine⟨i,rfl,him,?_⟩;have hev:zq T ⟨b,19+i*7,none⟩ (evE.enc (x.ev i)):=by
     have:=zN (n:=i*7) (m:=7) (zme tR);rw [zpZ x.ev (show i<24 by omega)] at this;exact this
    refine⟨evE.enc (x.ev i),rfl,hev,hlt tR,?_⟩;refine zl (X:=T) (v := .agg (evE.enc (x.ev i)).toArray) zdU rfl rfl rfl fun T2 hb2 fT2 sT2=>?_;have k2:KeepsG F F Y2 T2:=kT.trans (KeepsG.below hb2 fun k h => .inl h);have b2:Below (L+2) W T2:=bT.trans (hb2.mono (by omega));have n1:=zop x i;refine⟨_,zc (za fT2) (i:=1) rfl,?_⟩;have u2:=zb hb2 t2;have uR:=zb hb2 tR;have u3:=zb hb2 t3;refine biE (fun hk=>?_) fun hk=>?_
    ·have hk:(x.ev i).k=2:=jc.1 (dT hk);refine⟨_,zc (za fT2) (i:=3) rfl,?_⟩;refine⟨((x.ev i).v).toNat,rfl,((x.ev i).v).toNat_lt,?_⟩;refine zw k4 u2 (o:=0+((x.ev i).v).toNat*1) (v := .bool true) rfl rfl (by rw [zl7];have:=((x.ev i).v).toNat_lt;omega) rfl fun T3 fT3 gT3 sT3=>?_;rw [Gb,Gi,zqG] at fT3;have k3:KeepsG F F Y2 T3:=k2.trans (KeepsG.grown gT3 (by rw [hF0];exact .inl rfl));have hT2s:=k2.size;refine nxI (by omega) ?_;refine⟨i+1,(cvE rfl rfl),⟨him,?_,(gT3.block b (hlt uR) (fun e=>by
      have e:b=L+2:=(by simpa using e);rw [e] at uR;rw [uR] at u2;simp at u2)).trans uR,(gT3.block (L+3) (hlt u3) (by simp)).trans u3,k3,b2.trans (zo gT3 (by omega) (Gh _))⟩,zdc (by omega)⟩
     have e:(fun v=>wrL pre v||wrE x (i+1) v)=fun v=>(wrL pre v||wrE x i v)||decide ((x.ev i).v=v):=by
      funext v;rw [n1,Ux hk,UD,Bool.or_assoc]
     rw [e];exact fT3
    ·have hk:¬ (x.ev i).k=2:=fun e=>(dF hk) (by rw [e];rfl);refine nxI (by omega) ?_;refine⟨i+1,(cvE rfl rfl),⟨him,?_,uR,u3,k2,b2⟩,zdc (by omega)⟩;have e:(fun v=>wrL pre v||wrE x (i+1) v)=fun v=>(wrL pre v||wrE x i v):=by
      funext v;rw [n1,Ul hk,Un,UC]
     rw [e];exact u2
   ·have hc:¬ (i:Int)<(x.many:Int):=dF hc;obtain rfl:i=x.many:=(by omega);refine⟨F,⟨rfl,?_⟩,kT⟩;rw [hJ];refine⟨by omega,?_,by rw [lap];exact t3,bT⟩;have e:wrL (pre++[x])=fun v=>wrL pre v||wrE x x.many v:=by
     funext v;exact zoo pre x v
    rw [e];exact t2
  ·rintro D1 F Y hD hfD ⟨rfl,hj⟩ hdef;rw [hJ] at hj;obtain⟨h1,h2,h3,h4⟩:=hj;exact⟨D1,(cvE rfl rfl),h2,hdef,by omega,(hbW.mono (by omega)).trans h4⟩
  ·rintro D ex pre F Y hD hfD hpre h;exact h.elim
 clear f2 f3;rintro D1 U ⟨f2,fD1,hLD,bU⟩;have f0:U.heap[L]?=some (.cells #[.slice none 0 0] 72 (0,0)):=(bU.block L (by omega)).trans f0;have f1:U.heap[L+1]?=some (.cells #[.bool false] 4 (0,0)):=(bU.block (L+1) (by omega)).trans f1;have hwU:Bw w U:=hwV.trans (bU.mono (by omega));have sU:=hlt f2;have sD:=hlt fD1;clear bU hwV;refine⟨List UInt8×OA×Nat,fun s=>⟨[(4,AtR L),(5,AtR (L+1)),(11,.slice s.2.1 s.1.length s.2.2)],[{ target := .collected D1,args := #[] }]⟩,fun s Z=>s.1=zad xs/\OwnS zO 5 U.heap.size Z s.2.1 s.2.2 s.1/\Bw U Z,?_,?_⟩
 ·refine⟨wrC (wrL xs),zl7 _,za f2,hlt f2,?_⟩;refine⟨Nat×OA×Nat,fun s=>⟨[(4,AtR L),(5,AtR (L+1)),(11,.slice s.2.1 ((qh.take s.1).filter (wrL xs)).length s.2.2),(42,.agg (wrC (wrL xs)).toArray),(43,i64 (s.1:Nat))],[{ target := .collected D1,args := #[] }]⟩,
   fun s Z=>s.1<=256/\OwnS zO 5 U.heap.size Z s.2.1 s.2.2 ((qh.take s.1).filter (wrL xs))/\Bw U Z,fun s=>256-s.1,(0,none,0),
   (cvE rfl rfl),⟨Gj _,OwnS.nil,Gm _ _⟩,?_⟩
  rintro⟨k,r,c⟩ Z ⟨hk,ho,hbZ⟩;dsimp only at hk ho ⊢;have hZs:=hbZ.size;refine biE (fun hc=>?_) fun hc=>?_
  ·have hc:(k:Int)<256:=dT hc;have hk2:k<256:=by omega
   have tk:qh.take (k+1)=qh.take k++[UInt8.ofNat k]:=by
    obtain⟨hlb,hbk⟩:=zqc hk2;rw [tsg hlb,hbk]
   have fl:(qh.take (k+1)).filter (wrL xs)=(qh.take k).filter (wrL xs)++(if wrL xs (UInt8.ofNat k)=true then [UInt8.ofNat k] else []):=by
    rw [tk,Kw,zlD]
   have hfl:((qh.take k).filter (wrL xs)).length<=256:=by
    have h1:=JL (wrL xs) (qh.take k);rw [Qw] at h1;omega
   refine⟨k,rfl,hk2,?_⟩;refine zbc (by rw [Gi];exact zk3 _ hk2) ?_;refine biE (fun hv=>?_) fun hv=>?_
   ·rw [GC hv] at fl;refine⟨_,w8N k,?_⟩;refine⟨⟨by decide,by decide,rfl⟩,zO.enc (UInt8.ofNat k),rfl,?_⟩;have hba:Bw Z (Z.alloc (.cells (zO.enc (UInt8.ofNat k)).toArray 5)):=zba _ _;refine qQ (E:=zO) (T:=5) (B:=U.heap.size) (l:=(qh.take k).filter (wrL xs)) (news:=[UInt8.ofNat k]) (cap:=c) (m:=1) Tryz.underlying72 k5 rfl rfl rfl (ho.below hba) rfl (qt zO (UInt8.ofNat k)) (by have:=hba.size;omega) (by omega) (by show (((qh.take k).filter (wrL xs)).length+1)*1<=_;omega) ?_;intro p2 c2 T oT gT hbT hat;refine nxI (by omega) ?_;refine⟨(k+1,p2,c2),⟨.cons rfl (.cons rfl (.cons (by rw [fl];rfl) (.cons rfl (.cons rfl .nil)))),rfl⟩,⟨hk2,by show OwnS zO _ _ _ _ _ ((qh.take (k+1)).filter (wrL xs));rw [fl];exact oT,(hbZ.trans (hba.mono hZs)).trans hbT⟩,zdc (by omega)⟩
   ·have hv:wrL xs (UInt8.ofNat k)=false:=hv;rw [hv,GB Kv,QO] at fl;refine nxI (by omega) ?_;exact⟨(k+1,r,c),⟨.cons rfl (.cons rfl (.cons (by rw [fl];rfl) (.cons rfl (.cons rfl .nil)))),rfl⟩,⟨hk2,by show OwnS zO _ _ _ _ _ ((qh.take (k+1)).filter (wrL xs));rw [fl];exact ho,hbZ⟩,zdc (by omega)⟩
  ·have hc:¬ (k:Int)<256:=dF hc;obtain rfl:k=256:=by omega
   have e:(qh.take 256).filter (wrL xs)=zad xs:=by
    rw [zk2,JE (by unfold qh;rw [QS,KX];exact Gh _)]
   rw [e] at ho;exact⟨(zad xs,r,c),⟨.cons rfl (.cons rfl (.cons (by rw [e];rfl) .nil)),rfl⟩,rfl,ho,hbZ⟩
 rintro⟨ys,r,c⟩ Z ⟨rfl,ho,hbZ⟩;dsimp only at ho ⊢;have hZs:=hbZ.size;have g0:=zb hbZ f0;have g1:=zb hbZ f1;have gD:=zb hbZ fD1;refine zw k72 g0 (o:=0) (v := .slice r (zad xs).length c) rfl rfl (by show 0<1;decide) rfl fun Z1 fZ1 gZ1 sZ1=>?_;have g1':=(gZ1.block (L+1) (hlt g1) (by simp)).trans g1;refine zw k4 g1' (o:=0) (v := .bool true) rfl rfl (by show 0<1;decide) rfl fun Z2 fZ2 gZ2 sZ2=>?_;have k2:∀ k,k<Z.heap.size->k≠L->k≠L+1->Z2.heap[k]?=Z.heap[k]?:=fun k hk n1 n2=>(gZ2.block k (by rw [sZ1];exact hk) (by simpa using n2)).trans (gZ1.block k hk (by simpa using n1));have fZ1':=(gZ2.block L (hlt fZ1) (by simp)).trans fZ1;refine⟨_,rfl,(k2 D1 (hlt gD) (by omega) (by omega)).trans gD,?_⟩;refine⟨.slice r (zad xs).length c,?_,.bool true,?_,⟨r,c,rfl,?_⟩,?_⟩
 ·exact zc (za ((zj (by omega)).trans fZ1')) (i:=0) rfl
 ·exact zc (za ((zj (by omega)).trans fZ2)) (i:=0) rfl
 ·refine OwnS.lower (ho.same fun a ha=>?_) hwU.size;have h:=zaP ho ha;exact (zj (by omega)).trans (k2 _ h.2.1 (by omega) (by omega))
 ·have hwZ:=zst hwU hbZ;exact z8 ((hwZ.trans (zo gZ1 hwZ.size (by omega))).trans (zo gZ2 (by rw [sZ1];exact hwZ.size) (by omega))) (by omega) _
end
theorem zdJ {a b:Nat}:decide ((a:Int)<(b:Int))=decide (a<b):=by rw [QJ];omega
def jv (c:Cnd):Bool:=decide (c.thread=0)&&(decide (c.n=0)&&decide (c.val=0))
theorem zaE {threads locs d:Nat} (c:Cnd):zao threads locs (d+1) c=(if c.kind=0 then jv c&&decide (c.kids.length=0) else
  if c.kind=1 then decide (c.thread.toNat<threads)&&(decide (c.n.toNat<8)&&decide (c.kids.length=0)) else
  if c.kind=2 then decide (c.n.toNat<locs)&&(decide (c.thread=0)&&decide (c.kids.length=0)) else
  if c.kind=3\/c.kind=4 then jv c&&(decide (2<=c.kids.length)&&c.kids.all (zao threads locs d)) else
  if c.kind=5 then jv c&&(decide (c.kids.length=1)&&c.kids.all (zao threads locs d)) else false):=by
 obtain⟨k,t,n,v,kids⟩:=c;rfl
def zsG (c:Cnd):Prop:=(c.kind=3\/c.kind=4)/\jv c=true/\2<=c.kids.length\/c.kind=5/\jv c=true/\c.kids.length=1
theorem zlM {threads locs d:Nat} {c:Cnd} (h:zsG c):zao threads locs (d+1) c=c.kids.all (zao threads locs d):=by
 rw [zaE];rcases h with ⟨h1,h2,h3⟩ | ⟨h1,h2,h3⟩
 ·rw [GB (by rcases h1 with h | h <;> rw [h] <;> decide),GB (by rcases h1 with h | h <;> rw [h] <;> decide),GB (by rcases h1 with h | h <;> rw [h] <;> decide),GC h1,h2,Ux h3];rfl
 ·rw [GB (by rw [h1];decide),GB (by rw [h1];decide),GB (by rw [h1];decide),GB (by rw [h1];decide),GC h1,h2,Ux h3];rfl
theorem zkD {B threads locs:Nat} {w:Wd} (hB:B<=w.heap.size):∀ (d:Nat) (c:Cnd) (b o:Nat) (p:OA) (cap:Nat),d<=1000->b<B->zq w ⟨b,o,none⟩ (zbj c p cap)->KidsV B w p c.kids ->
  Calls PG 225 #[.pointer (some ⟨b,o,none⟩),i64 threads,i64 locs,i64 d] w fun e w'=>e = .returned (.bool (zao threads locs d c))/\w=w':=by
 intro d
 induction d with
 | zero =>
  intro c b o p cap _ hb hc hk;refine zI 141 [.pointer (some ⟨b,o,none⟩),i64 threads,i64 locs,i64 0] Tryz.func225 ?_;exact brT ⟨rfl,rfl⟩
 | succ d ih =>
  intro c b o p cap hd hb hc hk;refine zU 141 [.pointer (some ⟨b,o,none⟩),i64 threads,i64 locs,i64 (d+1:Nat)] (.s .p (.s .p (.c .p (.c .p .p)))) Tryz.func225 ?_;have hbl:b<w.heap.size:=nL hb hB;refine biE (fun h=>?_) fun h=>?_
  ·have h:((d+1:Nat):Int)=0:=dT h;omega
  clear h;refine⟨Unit,fun _=>⟨[(0,.pointer (some ⟨b,o,none⟩)),(1,i64 threads),(2,i64 locs),(3,i64 (d+1:Nat)),(9,.bool (jv c))],[]⟩,fun _ X=>w=X,?_,?_⟩
  ·have fin:∀ {v:Bool},v=jv c->some (Value.bool v)=some (.bool (jv c)):=fun h=>by rw [h]
   refine⟨_,zc hc (i:=1) rfl,biE (fun h1=>?_) fun h1=>?_⟩
   ·have h1:decide (c.thread=0)=true:=(u8d c.thread 0).symm.trans h1;refine⟨_,zc hc (i:=2) rfl,biE (fun h2=>?_) fun h2=>?_⟩
    ·have h2:decide (c.n=0)=true:=(u8d c.n 0).symm.trans h2;exact⟨_,zc hc (i:=3) rfl,(),⟨.cons rfl (.cons rfl (.cons rfl (.cons rfl (.cons (fin (by unfold jv;rw [h1,h2];exact u8d c.val 0)) .nil)))),rfl⟩,rfl⟩
    ·have h2:decide (c.n=0)=false:=(u8d c.n 0).symm.trans h2;exact⟨(),⟨.cons rfl (.cons rfl (.cons rfl (.cons rfl (.cons (fin (by unfold jv;rw [h1,h2];rfl)) .nil)))),rfl⟩,rfl⟩
   ·have h1:decide (c.thread=0)=false:=(u8d c.thread 0).symm.trans h1;exact brF ⟨(),⟨.cons rfl (.cons rfl (.cons rfl (.cons rfl (.cons (fin (by unfold jv;rw [h1];rfl)) .nil)))),rfl⟩,rfl⟩
  rintro _ _ rfl;refine⟨Unit,fun _=>⟨[(0,.pointer (some ⟨b,o,none⟩)),(1,i64 threads),(2,i64 locs),(3,i64 (d+1:Nat))],[]⟩,fun _ X=>zsG c/\w=X,?_,?_⟩
  ·have hkn:c.kids.length<=140737488351232:=by have:=hk.inv.1;omega
   refine⟨_,zc hc (i:=0) rfl,biE (fun h0=>?_) fun h0=>?_⟩
   ·have h0:c.kind=0:=dT ((u8d c.kind 0).symm.trans h0);have e:zao threads locs (d+1) c=(jv c&&decide (c.kids.length=0)):=(by rw [zaE,GC h0]);rw [e];refine biE (fun h=>?_) fun h=>?_
    ·have h:jv c=true:=h;exact⟨_,zc hc (i:=4) rfl,rb (by rw [h,UD];exact zcf),rfl⟩
    ·have h:jv c=false:=h;exact⟨rb (by rw [h];rfl),rfl⟩
   have h0:¬ c.kind=0:=dF ((u8d c.kind 0).symm.trans h0);refine biE (fun h1=>?_) fun h1=>?_
   ·have h1:c.kind=1:=dT ((u8d c.kind 1).symm.trans h1);have e:zao threads locs (d+1) c=(decide (c.thread.toNat<threads)&&(decide (c.n.toNat<8)&&decide (c.kids.length=0))):=(by rw [zaE,GB h0,GC h1]);rw [e];refine⟨_,zc hc (i:=1) rfl,_,qH _,biE (fun h=>?_) fun h=>?_⟩
    ·have h:decide (c.thread.toNat<threads)=true:=zdJ.symm.trans h;refine⟨_,zc hc (i:=2) rfl,biE (fun h2=>?_) fun h2=>?_⟩
     ·have h2:decide (c.n.toNat<8)=true:=(zdJ (b:=8)).symm.trans h2;exact⟨_,zc hc (i:=4) rfl,rb (by rw [h,h2];exact zcf),rfl⟩
     ·have h2:decide (c.n.toNat<8)=false:=(zdJ (b:=8)).symm.trans h2;exact⟨rb (by rw [h,h2];rfl),rfl⟩
    ·have h:decide (c.thread.toNat<threads)=false:=zdJ.symm.trans h;exact brF ⟨rb (by rw [h];rfl),rfl⟩
   have h1:¬ c.kind=1:=dF ((u8d c.kind 1).symm.trans h1);refine biE (fun h2=>?_) fun h2=>?_
   ·have h2:c.kind=2:=dT ((u8d c.kind 2).symm.trans h2);have e:zao threads locs (d+1) c=(decide (c.n.toNat<locs)&&(decide (c.thread=0)&&decide (c.kids.length=0))):=(by rw [zaE,GB h0,GB h1,GC h2]);rw [e];refine⟨_,zc hc (i:=2) rfl,_,qH _,biE (fun h=>?_) fun h=>?_⟩
    ·have h:decide (c.n.toNat<locs)=true:=zdJ.symm.trans h;refine⟨_,zc hc (i:=1) rfl,biE (fun h3=>?_) fun h3=>?_⟩
     ·have h3:decide (c.thread=0)=true:=(u8d c.thread 0).symm.trans h3;exact⟨_,zc hc (i:=4) rfl,rb (by rw [h,h3];exact zcf),rfl⟩
     ·have h3:decide (c.thread=0)=false:=(u8d c.thread 0).symm.trans h3;exact⟨rb (by rw [h,h3];rfl),rfl⟩
    ·have h:decide (c.n.toNat<locs)=false:=zdJ.symm.trans h;exact brF ⟨rb (by rw [h];rfl),rfl⟩
   have h2:¬ c.kind=2:=dF ((u8d c.kind 2).symm.trans h2);have g34:∀ (hk34:c.kind=3\/c.kind=4),zao threads locs (d+1) c=(jv c&&(decide (2<=c.kids.length)&&c.kids.all (zao threads locs d))):=fun hk34=>by
    rw [zaE,GB h0,GB h1,GB h2,GC hk34]
   refine biE (fun h3=>?_) fun h3=>?_
   ·have h3':decide ((c.kind.toNat:Int)=3)=true:=h3;have h3:c.kind=3\/c.kind=4 := .inl (dT ((u8d c.kind 3).symm.trans h3));refine brE h3' (biE (fun h=>?_) fun h=>?_)
    ·have h:(!jv c)=true:=h;have h:jv c=false:=(by simpa using h);exact brT ⟨rb (by rw [g34 h3,h];rfl),rfl⟩
    ·have h:(!jv c)=false:=h;have h:jv c=true:=(by simpa using h);refine⟨_,zc hc (i:=4) rfl,biE (fun h4=>?_) fun h4=>?_⟩
     ·have h4:(c.kids.length:Int)<2:=dT h4;exact⟨rb (by rw [g34 h3,Ul (by omega)];simp),rfl⟩
     ·have h4:¬ (c.kids.length:Int)<2:=dF h4;exact⟨(),(cvE rfl rfl),.inl ⟨h3,h,by omega⟩,rfl⟩
   have h3:¬ c.kind=3:=dF ((u8d c.kind 3).symm.trans h3);refine biE (fun h4=>?_) fun h4=>?_
   ·have h3:c.kind=3\/c.kind=4 := .inr (dT ((u8d c.kind 4).symm.trans h4));refine biE (fun h=>?_) fun h=>?_
    ·have h:(!jv c)=true:=h;have h:jv c=false:=(by simpa using h);exact brT ⟨rb (by rw [g34 h3,h];rfl),rfl⟩
    ·have h:(!jv c)=false:=h;have h:jv c=true:=(by simpa using h);refine⟨_,zc hc (i:=4) rfl,biE (fun h4=>?_) fun h4=>?_⟩
     ·have h4:(c.kids.length:Int)<2:=dT h4;exact⟨rb (by rw [g34 h3,Ul (by omega)];simp),rfl⟩
     ·have h4:¬ (c.kids.length:Int)<2:=dF h4;exact⟨(),(cvE rfl rfl),.inl ⟨h3,h,by omega⟩,rfl⟩
   have h4:¬ c.kind=4:=dF ((u8d c.kind 4).symm.trans h4);have h34:¬ (c.kind=3\/c.kind=4):=fun h=>h.elim h3 h4;refine biE (fun h5=>?_) fun h5=>?_
   ·have h5:c.kind=5:=dT ((u8d c.kind 5).symm.trans h5);have e:zao threads locs (d+1) c=(jv c&&(decide (c.kids.length=1)&&c.kids.all (zao threads locs d))):=(by rw [zaE,GB h0,GB h1,GB h2,GB h34,GC h5]);refine biE (fun h=>?_) fun h=>?_
    ·have h:(!jv c)=true:=h;have h:jv c=false:=(by simpa using h);exact brT ⟨rb (by rw [e,h];rfl),rfl⟩
    ·have h:(!jv c)=false:=h;have h:jv c=true:=(by simpa using h);refine⟨_,zc hc (i:=4) rfl,biE (fun h4=>?_) fun h4=>?_⟩
     ·have h4:(!decide ((c.kids.length:Int)=1))=true:=h4;have h4:¬ (c.kids.length:Int)=1:=(by simpa using h4);exact⟨rb (by rw [e,Ul (by omega)];simp),rfl⟩
     ·have h4:(!decide ((c.kids.length:Int)=1))=false:=h4;have h4:(c.kids.length:Int)=1:=(by simpa using h4);exact⟨(),(cvE rfl rfl),.inr ⟨h5,h,by omega⟩,rfl⟩
   have h5:¬ c.kind=5:=dF ((u8d c.kind 5).symm.trans h5);exact⟨rb (by rw [zaE,GB h0,GB h1,GB h2,GB h34,GB h5]),rfl⟩
  rintro _ _ ⟨ha,rfl⟩;rw [zlM ha];refine⟨_,zc hc (i:=4) rfl,?_⟩;obtain⟨hn,b1,o1,hp,hks⟩:=hk.inv;refine⟨Nat,fun k=>⟨[(0,.pointer (some ⟨b,o,none⟩)),(1,i64 threads),(2,i64 locs),(3,i64 (d+1:Nat)),(124,i64 c.kids.length),(125,i64 (k:Nat))],[]⟩,fun k X=>k<=c.kids.length/\(∀ x∈c.kids.take k,zao threads locs d x=true)/\w=X,fun k=>c.kids.length-k,0,
   (cvE rfl rfl),⟨Gj _,by simp,rfl⟩,?_⟩
  rintro k _ ⟨hk,hall,rfl⟩;dsimp only at hk hall ⊢;refine biE (fun hc2=>?_) fun hc2=>?_
  ·have hc2:(k:Int)<(c.kids.length:Int):=dT hc2;have hkl:k<c.kids.length:=by omega
   rcases hp with hp | rfl
   ·omega
   obtain⟨q,cq,hb1,hq,hkq⟩:=hks k hkl;refine⟨_,zc hc (i:=4) rfl,k,rfl,hkl,(d:Int),(zi (by omega)).trans (by omega),cmo (ih c.kids[k] b1 (o1+k*5) q cq (by omega) hb1 hq hkq) ?_⟩;rintro e _ ⟨rfl,rfl⟩;refine biE (fun h=>?_) fun h=>?_
   ·have h:(!zao threads locs d c.kids[k])=true:=h;refine⟨rb ?_,rfl⟩;symm;rw [KO];exact⟨c.kids[k],gM _,by simpa using h⟩
   ·have h:(!zao threads locs d c.kids[k])=false:=h;refine⟨_,(zi (by omega)).trans rfl,k+1,(cvE rfl rfl),⟨hkl,?_,rfl⟩,zdc (by omega)⟩;rw [tsg hkl];intro x hx;rcases QW.1 hx with hx | hx
    ·exact hall x hx
    ·simp only [KC] at hx;rw [hx];simpa using h
  ·have hc2:¬ (k:Int)<(c.kids.length:Int):=dF hc2;obtain rfl:k=c.kids.length:=by omega
   rw [Qy] at hall;exact⟨rb (Ql.2 hall).symm,rfl⟩
theorem zuc {B threads locs cap:Nat} {p:OA} {c:Cnd} {w:Wd} (hB:B<=w.heap.size) (hk:KidsV B w p c.kids) :
  CB 192 #[.agg (zbj c p cap).toArray,i64 threads,i64 locs] w (.bool (zao threads locs 20 c)):=by
 refine zI 10 [.agg (zbj c p cap).toArray,i64 threads,i64 locs] Tryz.func192 ?_;have hb:Bw w (w.alloc (.cells (zbj c p cap).toArray 101)):=zba w _;have hn:=zt w (.cells (zbj c p cap).toArray 101);refine cmo (zkD (B:=w.heap.size+1) (by rw [wz];omega) 20 c w.heap.size 0 p cap (by omega) (by omega) (za hn) ((hk.kept (hb.mono hB)).wider (by omega))) ?_;rintro e _ ⟨rfl,rfl⟩;exact⟨rfl,hb⟩
theorem zke {g:Nat} {p:Prg} {p1 p2 p3 p4:OA} {c1 c2 c3 c4 B:Nat} {w:Wd} (hc:zq w ⟨g,0,none⟩ (j8 p p1 c1 p2 c2 p3 c3 p4 c4)) (hg:g<w.heap.size) (h1:RowB zlw B w p1 p.locs) (hB:B<=w.heap.size) (hcap:p.locs.length<=c1) (hl:PrgLen p) :
  CB 184 #[At0 g] w (.bool (zeX p)):=by
 refine zU 56 [At0 g] (.s .p (.c .p .p)) Tryz.func184 ?_;have hbd:Bw w w.drew:=(Gm _ w).drew;have hcd:zq w.drew ⟨g,0,none⟩ (j8 p p1 c1 p2 c2 p3 c3 p4 c4):=zz hbd hc;have h1d:SlR zlw w.drew p1 p.locs:=(h1.below (hbd.mono hB)).slr (UX hB hbd.size);have hln:=hl.locs;refine⟨Unit,fun _=>⟨[(0,At0 g)],[]⟩,fun _ X=>(1<=p.locs.length/\p.locs.length<=6/\p.init.length=p.locs.length)/\X=w.drew,?_,?_⟩
 ·refine DrawE.ord [] [0,1,2,3,4,5,6,7,8,9,10,11,12,13,14,15,16,17,18,19,20,21,22,23,24,25,26] (by kernel_rfl) ⟨_,zc hcd (i:=1) rfl,biE (fun ha=>?_) fun ha=>?_⟩
  ·have ha:(p.locs.length:Int)<1:=dT ha;exact brT (brT ⟨rb (by unfold zeX;rw [Ul (by omega)];rfl),hbd⟩)
  ·have ha:¬ (p.locs.length:Int)<1:=dF ha;refine⟨_,zc hcd (i:=1) rfl,biE (fun hd=>?_) fun hd=>?_⟩
   ·have hd:(6:Int)<(p.locs.length:Int):=dT hd;exact brT ⟨rb (by unfold zeX;rw [Ul (p:=p.locs.length<=6) (by omega)];simp),hbd⟩
   ·have hd:¬ (6:Int)<(p.locs.length:Int):=dF hd;refine⟨_,zc hcd (i:=2) rfl,_,zc hcd (i:=1) rfl,biE (fun he=>?_) fun he=>?_⟩
    ·have he:(!decide ((p.init.length:Int)=(p.locs.length:Int)))=true:=he;have he:¬ (p.init.length:Int)=(p.locs.length:Int):=(by simpa using he);exact⟨rb (by unfold zeX;rw [Ul (p:=p.init.length=p.locs.length) (by omega)];simp),hbd⟩
    ·have he:(!decide ((p.init.length:Int)=(p.locs.length:Int)))=false:=he;have he:(p.init.length:Int)=(p.locs.length:Int):=(by simpa using he);exact⟨(),(cvE rfl rfl),⟨by omega,by omega,by omega⟩,rfl⟩
 rintro _ _ ⟨⟨l1,l6,li⟩,rfl⟩;have hdef:zeX p=zee [] p.locs:=by unfold zeX;rw [Ux l1,Ux l6,Ux li];rfl
 rw [hdef];refine⟨_,zc hcd (i:=1) rfl,?_⟩;refine⟨Nat,fun k=>⟨[(0,At0 g),(35,.slice p1 p.locs.length c1),(36,i64 p.locs.length),(37,i64 (k:Nat))],[]⟩,fun k X=>k<=p.locs.length/\zee (p.locs.take k) (p.locs.drop k)=zee [] p.locs/\X=w.drew,fun k=>p.locs.length-k,0,
  (cvE rfl rfl),⟨Gj _,rfl,rfl⟩,?_⟩
 rintro k _ ⟨hk,hna,rfl⟩;dsimp only at hk hna ⊢;refine biE (fun hc2=>?_) fun hc2=>?_
 ·have hc2:(k:Int)<(p.locs.length:Int):=dT hc2;have hkl:k<p.locs.length:=by omega
  obtain⟨b,o,rfl,hb,hat⟩:=h1d.at hkl;have hbk:Bw w w.drew:=hbd;refine⟨k,rfl,hkl,_,zc (hat k hkl) (i:=0) rfl,?_⟩;have hs:p.locs[k].length<=140737488351232:=hl.loc _ (gM _);have hstep:zee [] p.locs=(zeU p.locs[k]&&(!((p.locs.take k).any fun q=>decide (q=p.locs[k]))&&zee (p.locs.take (k+1)) (p.locs.drop (k+1)))):=by
   rw [<- hna,Jo hkl,tsg hkl];rfl
  refine cmo (zt3 p.locs[k] hs _) ?_;rintro e _ ⟨rfl,rfl⟩;refine biE (fun h=>?_) fun h=>?_
  ·have h:(!zeU p.locs[k])=true:=h;have h:zeU p.locs[k]=false:=by simpa using h
   exact brT ⟨rb (by rw [hstep,h];rfl),hbd⟩
  ·have h:(!zeU p.locs[k])=false:=h;have h:zeU p.locs[k]=true:=by simpa using h
   refine⟨_,zc hcd (i:=1) rfl,k,rfl,by omega,?_⟩;have hsub:SlR zlw w.drew (q8 (some ⟨b,o,none⟩) c1 0 1) (p.locs.take k):=SlR.sub h1d (lo:=0) (hi:=k) (Gj _) (by omega) hcap;have htl:(p.locs.take k).length=k:=by rw [Qw];omega
   have hcn:=zl0 (q8 (some ⟨b,o,none⟩) c1 0 1) (c1-0) (p.locs.take k) p.locs[k] w.drew hsub (by omega);rw [htl] at hcn;refine cmo hcn ?_;rintro e _ ⟨rfl,rfl⟩;refine biE (fun h5=>?_) fun h5=>?_
   ·have h5:((p.locs.take k).any fun q=>decide (q=p.locs[k]))=true:=h5;exact⟨rb (by rw [hstep,h5];simp),hbd⟩
   ·have h5:((p.locs.take k).any fun q=>decide (q=p.locs[k]))=false:=h5;exact⟨_,(zi (by omega)).trans rfl,k+1,(cvE rfl rfl),⟨hkl,by rw [hstep,h,h5];rfl,rfl⟩,zdc (by omega)⟩
 ·have hc2:¬ (k:Int)<(p.locs.length:Int):=dF hc2;obtain rfl:k=p.locs.length:=by omega
  rw [Qo] at hna;exact⟨rb hna,hbd⟩
structure DmV (B:Nat) (X:Wd) (g bx:Nat) (p:Prg):Prop where
 hB:B<=X.heap.size
 hg:g<X.heap.size
 len:PrgLen p
 h:∃ p1 c1 p2 c2 p3 c3 p4 c4,zq X ⟨g,0,none⟩ (j8 p p1 c1 p2 c2 p3 c3 p4 c4)/\RowB zlw B X p1 p.locs/\RowB zO B X p2 p.init/\ThrsV B X p3 p.threads/\KidsV B X p4 p.cond.kids/\p.locs.length<=c1
 b:X.heap[bx]?=some (.cells #[At0 g] 169 (0,0))
 G:GlobC X
theorem DmV.below {B:Nat} {X Y:Wd} {g bx:Nat} {p:Prg} (h:DmV B X g bx p) (hb:Bw X Y):DmV B Y g bx p:=by
 obtain⟨p1,c1,p2,c2,p3,c3,p4,c4,h0,h1,h2,h3,h4,h5⟩:=h.h;have hb':=hb.mono h.hB;exact⟨UX h.hB hb.size,nL h.hg hb.size,h.len,⟨p1,c1,p2,c2,p3,c3,p4,c4,zz hb h0,h1.below hb',h2.below hb',h3.below hb',h4.kept hb',h5⟩,zb hb h.b,h.G.below hb⟩
def zlj (sel:Bool) (bx:Nat):Value:=match sel with
 | false => .func (.func 186) #[] #[]
 | true => .func (.func 188) #[] #[.pointer (some ⟨bx,0,none⟩)]
def zco (sel:Bool) (p:Prg) (l:List InsD):Bool:=match sel with
 | false=>decide (l.length<=12)
 | true=>jK l p.locs.length
section
variable {B g bx:Nat} {p:Prg} {w:Wd}
theorem zqV (q:OA) (cap:Nat) (l:List InsD):Calls PG 186 #[.slice q l.length cap] w fun e w'=>e = .returned (.bool (decide (l.length<=12)))/\w=w':=by
 refine zI 6 [.slice q l.length cap] Tryz.func186 ?_;refine⟨rb ?_,rfl⟩;rw [QJ];show ((l.length:Int)<=12)↔_;omega
theorem zoD (h:DmV B w g bx p) {q:OA} {cap:Nat} {l:List InsD} (hl:SlR qz w q l) (hn:l.length<=140737488351232) :
  CB 188 #[.slice q l.length cap,At0 bx] w (.bool (jK l p.locs.length)):=by
 refine zI 11 [.slice q l.length cap,At0 bx] Tryz.func188 ?_;obtain⟨p1,c1,p2,c2,p3,c3,p4,c4,h0,h1,h2,h3,h4,h5⟩:=h.h;refine⟨_,zc (za h.b) (i:=0) rfl,_,zc h0 (i:=1) rfl,cmo (zkV hl h.G hn) ?_⟩;rintro e V ⟨rfl,hb⟩;exact⟨rfl,hb⟩
theorem zmF (sel:Bool) (h:DmV B w g bx p):CB 180 #[zlj sel bx,At0 bx] w (.bool (p.threads.all (zco sel p))):=by
 refine zI 20 [zlj sel bx,At0 bx] Tryz.func180 ?_;obtain⟨p1,c1,p2,c2,p3,c3,p4,c4,h0,h1,h2,h3,h4,h5⟩:=h.h;obtain⟨xs,hxs,hr,hx⟩:=h3;have hlen:p.threads.length=xs.length:=by rw [<- hxs,QS]
 have hln:=h.len.threads;refine⟨_,zc (za h.b) (i:=0) rfl,_,zc h0 (i:=3) rfl,?_⟩;refine⟨Nat,fun k=>⟨[(0,zlj sel bx),(1,At0 bx),(9,.slice p3 p.threads.length c3),(10,i64 p.threads.length),(11,i64 (k:Nat))],[]⟩,fun k X=>k<=p.threads.length/\(∀ l∈p.threads.take k,zco sel p l=true)/\Bw w X,fun k=>p.threads.length-k,0,
  (cvE rfl rfl),⟨Gj _,by simp,Gm _ _⟩,?_⟩
 rintro k X ⟨hk,hall,hbX⟩;dsimp only at hk hall ⊢;have hX:=h.below hbX;refine biE (fun hc=>?_) fun hc=>?_
 ·have hc:(k:Int)<(p.threads.length:Int):=dT hc;have hkl:k<p.threads.length:=by omega
  have hkx:k<xs.length:=by omega
  have e1:p.threads[k]=xs[k].1:=by simp [<- hxs]
  obtain⟨b,o,hp3,hat⟩:=hr.get;rcases hp3 with hp3 | rfl
  ·omega
  refine⟨k,rfl,hkl,?_⟩;obtain⟨hb1,ha1⟩:=hat k hkx;refine⟨_,zc (ja (hbX.mono h.hB) hb1 ha1) (i:=0) rfl,?_⟩;have zbT:SlR qz X xs[k].2.1 xs[k].1:=((hx _ (gM hkx)).below (hbX.mono h.hB)).slr hX.hB;have hln1:xs[k].1.length<=140737488351232:=by rw [<- e1];exact h.len.thread _ (gM _)
  have hfin:zco sel p xs[k].1=false->p.threads.all (zco sel p)=false:=fun hf=>by
   rw [KO];exact⟨p.threads[k],gM _,by rw [e1,hf];simp⟩
  have hgo:zco sel p xs[k].1=true->∀ l∈p.threads.take (k+1),zco sel p l=true:=fun ht=>by
   rw [tsg hkl];intro x hx;rcases QW.1 hx with hx | hx
   ·exact hall x hx
   ·simp only [KC] at hx;rw [hx,e1];exact ht
  cases sel with
  | false =>
   refine cmo (zqV xs[k].2.1 xs[k].2.2 xs[k].1) ?_;rintro e _ ⟨rfl,rfl⟩;refine biE (fun hb=>?_) fun hb=>?_
   ·have hb:(!zco false p xs[k].1)=true:=hb;exact⟨rb (hfin (by simpa using hb)).symm,hbX⟩
   ·have hb:(!zco false p xs[k].1)=false:=hb;exact⟨_,(zi (by omega)).trans rfl,k+1,(cvE rfl rfl),⟨hkl,hgo (by simpa using hb),hbX⟩,zdc (by omega)⟩
  | true =>
   refine cmo (zoD hX (cap:=xs[k].2.2) zbT hln1) ?_;rintro e Y ⟨rfl,hbY⟩;refine biE (fun hb=>?_) fun hb=>?_
   ·have hb:(!zco true p xs[k].1)=true:=hb;exact⟨rb (hfin (by simpa using hb)).symm,(zst hbX hbY)⟩
   ·have hb:(!zco true p xs[k].1)=false:=hb;exact⟨_,(zi (by omega)).trans rfl,k+1,(cvE rfl rfl),⟨hkl,hgo (by simpa using hb),(zst hbX hbY)⟩,zdc (by omega)⟩
 ·have hc:¬ (k:Int)<(p.threads.length:Int):=dF hc;obtain rfl:k=p.threads.length:=by omega
  rw [Qy] at hall;exact⟨rb (Ql.2 hall).symm,hbX⟩
theorem ztI (h:DmV B w g bx p):CB 181 #[At0 bx] w (.bool (zdM p.name)):=by
 refine zI 7 [At0 bx] Tryz.func181 ?_;obtain⟨p1,c1,p2,c2,p3,c3,p4,c4,h0,h1,h2,h3,h4,h5⟩:=h.h;refine⟨_,zc (za h.b) (i:=0) rfl,_,zc h0 (i:=0) rfl,cmo (zpB p.name h.len.name w) ?_⟩;rintro e V ⟨rfl,hb⟩;exact⟨rfl,hb⟩
theorem ztH (h:DmV B w g bx p):CB 183 #[At0 bx] w (.bool (zeX p)):=by
 refine zI 4 [At0 bx] Tryz.func183 ?_;obtain⟨p1,c1,p2,c2,p3,c3,p4,c4,h0,h1,h2,h3,h4,h5⟩:=h.h;refine⟨_,zc (za h.b) (i:=0) rfl,cmo (zke h0 h.hg h1 h.hB h5 h.len) ?_⟩;rintro e V ⟨rfl,hb⟩;exact⟨rfl,hb⟩
def evV (bx:Nat):Value := .func (.func 180) #[] #[At0 bx]
theorem ztG (h:DmV B w g bx p) {ev:Nat} (hev:w.heap[ev]?=some (.cells #[evV bx] 276 (0,0))):CB 185 #[At0 bx,At0 ev] w (.bool (decide (1<=p.threads.length)&&(decide (p.threads.length<=4)&&p.threads.all fun l=>decide (l.length<=12)))):=by
 refine zI 21 [At0 bx,At0 ev] Tryz.func185 ?_;obtain⟨p1,c1,p2,c2,p3,c3,p4,c4,h0,h1,h2,h3,h4,h5⟩:=h.h;refine⟨_,zc (za h.b) (i:=0) rfl,_,zc h0 (i:=3) rfl,biE (fun ha=>?_) fun ha=>?_⟩
 ·have ha:(1:Int)<=(p.threads.length:Int):=dT ha;refine⟨_,zc (za h.b) (i:=0) rfl,_,zc h0 (i:=3) rfl,biE (fun hb=>?_) fun hb=>?_⟩
  ·have hb:(p.threads.length:Int)<=4:=dT hb;refine⟨_,zc (za hev) (i:=0) rfl,cmo (zmF false h) ?_⟩;rintro e V ⟨rfl,hbV⟩;refine⟨rb ?_,hbV⟩;rw [Ux (by omega),Ux (by omega),UD,UD];rfl
  ·have hb:¬ (p.threads.length:Int)<=4:=dF hb;exact⟨rb (by rw [Ul (p:=p.threads.length<=4) (by omega)];simp),Gm _ _⟩
 ·have ha:¬ (1:Int)<=(p.threads.length:Int):=dF ha;exact brF ⟨rb (by rw [Ul (p:=1<=p.threads.length) (by omega)];rfl),Gm _ _⟩
theorem ztF (h:DmV B w g bx p) {ev:Nat} (hev:w.heap[ev]?=some (.cells #[evV bx] 276 (0,0))):CB 187 #[At0 ev,At0 bx] w (.bool (p.threads.all fun l=>jK l p.locs.length)):=by
 refine zI 6 [At0 ev,At0 bx] Tryz.func187 ?_;refine⟨_,zc (za hev) (i:=0) rfl,cmo (zmF true h) ?_⟩;rintro e V ⟨rfl,hbV⟩;exact⟨rfl,hbV⟩
theorem ztE (h:DmV B w g bx p):CB 190 #[At0 bx] w (.bool (decide (p.ask=1)||(decide (p.ask=2)||decide (p.ask=3)))):=by
 refine zI 21 [At0 bx] Tryz.func190 ?_;obtain⟨p1,c1,p2,c2,p3,c3,p4,c4,h0,h1,h2,h3,h4,h5⟩:=h.h;refine⟨_,zc (za h.b) (i:=0) rfl,_,zc h0 (i:=4) rfl,biE (fun ha=>?_) fun ha=>?_⟩
 ·have ha:decide (p.ask=1)=true:=(u8d p.ask 1).symm.trans ha;exact brT ⟨rb (by rw [ha];rfl),Gm _ _⟩
 ·have ha:decide (p.ask=1)=false:=(u8d p.ask 1).symm.trans ha;refine⟨_,zc (za h.b) (i:=0) rfl,_,zc h0 (i:=4) rfl,biE (fun hb=>?_) fun hb=>?_⟩
  ·have hb:decide (p.ask=2)=true:=(u8d p.ask 2).symm.trans hb;exact⟨rb (by rw [ha,hb];rfl),Gm _ _⟩
  ·have hb:decide (p.ask=2)=false:=(u8d p.ask 2).symm.trans hb;exact⟨_,zc (za h.b) (i:=0) rfl,_,zc h0 (i:=4) rfl,rb (by rw [ha,hb];exact u8d p.ask 3),Gm _ _⟩
theorem ztD (h:DmV B w g bx p):CB 191 #[At0 bx] w (.bool (zao p.threads.length p.locs.length 20 p.cond)):=by
 refine zI 17 [At0 bx] Tryz.func191 ?_;have hbd:Bw w w.drew:=(Gm _ w).drew;have hd:=h.below hbd;obtain⟨p1,c1,p2,c2,p3,c3,p4,c4,h0,h1,h2,h3,h4,h5⟩:=hd.h;refine DrawE.ord [] [0,1,2,3,4,5,6,7,8,9,10,11,12,13,14,15] (by kernel_rfl) ⟨_,zc (za hd.b) (i:=0) rfl,zbj p.cond p4 c4,rfl,zN (n:=5) (m:=5) h0,hd.hg,_,zc (za hd.b) (i:=0) rfl,_,zc h0 (i:=3) rfl,_,zc (za hd.b) (i:=0) rfl,_,zc h0 (i:=1) rfl,cmo (zuc hd.hB h4) ?_⟩;rintro e V ⟨rfl,hbV⟩;exact⟨hbV,rfl,hbd.trans hbV⟩
def ztC (bx ev:Nat):List Value:=[i64 70,.func (.func 181) #[] #[At0 bx],i64 71,.func (.func 183) #[] #[At0 bx],
 i64 72,.func (.func 185) #[] #[At0 bx,At0 ev],i64 73,.func (.func 187) #[] #[At0 ev,At0 bx],
 i64 75,.func (.func 190) #[] #[At0 bx],i64 74,.func (.func 191) #[] #[At0 bx]]
theorem zn1 {g:Nat} {w:Wd}:Calls PG 134 #[At0 g] w fun e w'=>e = .returned (.slice (some ⟨w.heap.size+2,0,none⟩) 6 6) /\
  w'.heap[w.heap.size]?=some (.cells #[At0 g] 169 (0,0))/\w'.heap[w.heap.size+1]?=some (.cells #[evV w.heap.size] 276 (0,0)) /\
  w'.heap[w.heap.size+2]?=some (.cells (ztC w.heap.size (w.heap.size+1)).toArray 228 (0,0))/\w'.heap.size=w.heap.size+3/\Bw w w':=by
 refine zI 18 [At0 g] Tryz.func134 ?_;have hs:=wz w (.cells (At0 g).cells 169);refine zl (X:=w.alloc (.cells (At0 g).cells 169)) (v:=evV w.heap.size) zvM rfl rfl rfl fun V hbV fV sV=>?_;generalize hev:(w.alloc (.cells (At0 g).cells 169)).heap.size=ev at *;refine⟨[i64 70,.func (.func 181) #[] #[.pointer (some ⟨w.heap.size,0,none⟩)]],rfl,[i64 71,.func (.func 183) #[] #[.pointer (some ⟨w.heap.size,0,none⟩)]],rfl,[i64 72,.func (.func 185) #[] #[.pointer (some ⟨w.heap.size,0,none⟩),At0 ev]],rfl,[i64 73,.func (.func 187) #[] #[At0 ev,.pointer (some ⟨w.heap.size,0,none⟩)]],rfl,[i64 75,.func (.func 190) #[] #[.pointer (some ⟨w.heap.size,0,none⟩)]],rfl,[i64 74,.func (.func 191) #[] #[.pointer (some ⟨w.heap.size,0,none⟩)]],rfl,⟨by decide,by decide,rfl⟩,ztC w.heap.size ev,rfl,?_⟩;subst hs;refine⟨?_,?_,?_,?_,?_,?_⟩
 ·rw [sV];rfl
 ·exact qe _ (zb (show Below _ _ _ from hev▸hbV) (zt w _))
 ·exact qe _ fV
 ·rw [show w.heap.size+2=V.heap.size from sV.symm];exact zt _ _
 ·rw [wz,sV]
 ·exact (((zba w _)).trans (hbV.mono (by omega))).alloc (by omega) _
end
def okL (p:Prg):List Bool:=[zdM p.name,zeX p,decide (1<=p.threads.length)&&(decide (p.threads.length<=4)&&p.threads.all fun l=>decide (l.length<=12)),p.threads.all (fun l=>jK l p.locs.length),
 decide (p.ask=1)||(decide (p.ask=2)||decide (p.ask=3)),zao p.threads.length p.locs.length 20 p.cond]
theorem zms {p:Prg}:zgR p=(okL p).all id:=by
 unfold zgR okL;simp only [UG,List.all_nil,Bool.and_true,id]
theorem zmU {B:Nat} {p:Prg} {vs:List Value} {w:Wd} (hB:B<=w.heap.size) (hp:PrgV B w vs p) (hG:GlobC w) :
  Calls PG 85 #[.agg vs.toArray] w fun e w'=>∃ n:Int,e = .returned (i64 n)/\(n=0↔zgR p=true)/\Bw w w':=by
 obtain⟨hl,p1,c1,p2,c2,p3,c3,p4,c4,rfl,h1,h2,h3,h4,h5⟩:=hp;refine zI 18 [.agg (j8 p p1 c1 p2 c2 p3 c3 p4 c4).toArray] Tryz.func85 ?_;obtain⟨L,hL⟩:=nm (w.heap.size);have hn:=zt w (.cells (Value.agg (j8 p p1 c1 p2 c2 p3 c3 p4 c4).toArray).cells 103);have hs:=wz w (.cells (Value.agg (j8 p p1 c1 p2 c2 p3 c3 p4 c4).toArray).cells 103);have hb:Bw w (w.alloc (.cells (Value.agg (j8 p p1 c1 p2 c2 p3 c3 p4 c4).toArray).cells 103)):=zba w _;refine cmo zn1 ?_;rintro e V ⟨rfl,hbx,hev,hsl,hsz,hbV⟩;have hbw:Bw w V:=zst hb hbV;have p1':some (Value.slice (some ⟨(w.alloc (.cells (Value.agg (j8 p p1 c1 p2 c2 p3 c3 p4 c4).toArray).cells 103)).heap.size+2,0,none⟩) 6 6)=some (Value.slice (some ⟨L+3,0,none⟩) 6 6):=by rw [hs,hL]
 have hD:DmV B V L (L+1) p:=by
  have hbB:=hbw.mono hB;rw [hs,<- hL] at hbx;refine⟨UX hB hbw.size,by omega,hl,⟨p1,c1,p2,c2,p3,c3,p4,c4,za (zb hbV (hL▸hn)),h1.below hbB,h2.below hbB,h3.below hbB,h4.kept hbB,h5⟩,hbx,hG.below hbw⟩
 rw [hs,<- hL] at hev hsl;clear hn hs hb hbx hbV hsz;refine⟨Nat,fun j=>⟨[(5,.slice (some ⟨L+3,0,none⟩) 6 6),(6,i64 6),(7,i64 (j:Nat))],[]⟩,
  fun j X=>j<=6/\(∀ i,i<j->(okL p)[i]?=some true)/\DmV B X L (L+1) p/\X.heap[L+2]?=some (.cells #[evV (L+1)] 276 (0,0))/\X.heap[L+3]?=some (.cells (ztC (L+1) (L+2)).toArray 228 (0,0))/\Bw w X,fun j=>6-j,0,
  ⟨.cons p1' (.cons rfl (.cons rfl .nil)),rfl⟩,⟨Gj _,fun i hi=>by omega,hD,hev,hsl,hbw⟩,?_⟩
 clear hD hev hsl hbw p1';rintro j X ⟨hj,hpre,hD,hev,hsl,hbw⟩;dsimp only at hj hpre ⊢;refine biE (fun hc=>?_) fun hc=>?_
 ·have hc:(j:Int)<6:=dT hc;have hno:∀ {i:Nat},(okL p)[i]?=some false->zgR p=false:=fun h=>by rw [zms];exact zqn h
  have hcs:j=0\/j=1\/j=2\/j=3\/j=4\/j=5:=by omega
  rcases hcs with rfl | rfl | rfl | rfl | rfl | rfl
  ·refine⟨0,rfl,by decide,?_⟩;refine⟨[i64 70,.func (.func 181) #[] #[At0 (L+1)]],rfl,zN (n:=0) (m:=2) (za hsl),hlt hsl,zl (X:=X) (v := .agg [i64 70,.func (.func 181) #[] #[At0 (L+1)]].toArray) znP rfl rfl rfl fun Y hbY fY sY=>?_⟩;have hY:=hD.below hbY;have hevY:=zb hbY hev;have hslY:=zb hbY hsl;refine⟨_,zc (za fY) (i:=1) rfl,cmo (ztI hY) ?_⟩;rintro e W ⟨rfl,hbW⟩;have hbX:Bw w W:=((zst hbw hbY)).trans (hbW.mono (UX hbw.size hbY.size));refine biE (fun hb=>?_) fun hb=>?_
   ·have hb:(!((okL p)[0]'(by show 0<6;decide)))=true:=hb;have hb:(okL p)[0]?=some false:=(by rw [gE (by show 0<6;decide)];exact Gw some (by rw [<- UO ((okL p)[0]'(by show 0<6;decide)),hb];rfl));exact⟨_,zc (za (zb hbW fY)) (i:=0) rfl,70,rfl,⟨fun h=>GD h (by decide),fun h=>by rw [hno hb] at h;cases h⟩,hbX⟩
   ·have hb:(!((okL p)[0]'(by show 0<6;decide)))=false:=hb;have hb:(okL p)[0]?=some true:=(by rw [gE (by show 0<6;decide)];exact Gw some (by rw [<- UO ((okL p)[0]'(by show 0<6;decide)),hb];rfl));refine⟨_,(zi (by omega)).trans rfl,1,(cvE rfl rfl),⟨by omega,fun i hi=>?_,hY.below hbW,zb hbW hevY,zb hbW hslY,hbX⟩,by decide⟩;by_cases hik:i=0
    ·rw [hik];exact hb
    ·exact hpre i (by omega)
  ·refine⟨1,rfl,by decide,?_⟩;refine⟨[i64 71,.func (.func 183) #[] #[At0 (L+1)]],rfl,zN (n:=2) (m:=2) (za hsl),hlt hsl,zl (X:=X) (v := .agg [i64 71,.func (.func 183) #[] #[At0 (L+1)]].toArray) znP rfl rfl rfl fun Y hbY fY sY=>?_⟩;have hY:=hD.below hbY;have hevY:=zb hbY hev;have hslY:=zb hbY hsl;refine⟨_,zc (za fY) (i:=1) rfl,cmo (ztH hY) ?_⟩;rintro e W ⟨rfl,hbW⟩;have hbX:Bw w W:=((zst hbw hbY)).trans (hbW.mono (UX hbw.size hbY.size));refine biE (fun hb=>?_) fun hb=>?_
   ·have hb:(!((okL p)[1]'(by show 1<6;decide)))=true:=hb;have hb:(okL p)[1]?=some false:=(by rw [gE (by show 1<6;decide)];exact Gw some (by rw [<- UO ((okL p)[1]'(by show 1<6;decide)),hb];rfl));exact⟨_,zc (za (zb hbW fY)) (i:=0) rfl,71,rfl,⟨fun h=>GD h (by decide),fun h=>by rw [hno hb] at h;cases h⟩,hbX⟩
   ·have hb:(!((okL p)[1]'(by show 1<6;decide)))=false:=hb;have hb:(okL p)[1]?=some true:=(by rw [gE (by show 1<6;decide)];exact Gw some (by rw [<- UO ((okL p)[1]'(by show 1<6;decide)),hb];rfl));refine⟨_,(zi (by omega)).trans rfl,2,(cvE rfl rfl),⟨by omega,fun i hi=>?_,hY.below hbW,zb hbW hevY,zb hbW hslY,hbX⟩,by decide⟩;by_cases hik:i=1
    ·rw [hik];exact hb
    ·exact hpre i (by omega)
  ·refine⟨2,rfl,by decide,?_⟩;refine⟨[i64 72,.func (.func 185) #[] #[At0 (L+1),At0 (L+2)]],rfl,zN (n:=4) (m:=2) (za hsl),hlt hsl,zl (X:=X) (v := .agg [i64 72,.func (.func 185) #[] #[At0 (L+1),At0 (L+2)]].toArray) znP rfl rfl rfl fun Y hbY fY sY=>?_⟩;have hY:=hD.below hbY;have hevY:=zb hbY hev;have hslY:=zb hbY hsl;refine⟨_,zc (za fY) (i:=1) rfl,cmo (ztG hY hevY) ?_⟩;rintro e W ⟨rfl,hbW⟩;have hbX:Bw w W:=((zst hbw hbY)).trans (hbW.mono (UX hbw.size hbY.size));refine biE (fun hb=>?_) fun hb=>?_
   ·have hb:(!((okL p)[2]'(by show 2<6;decide)))=true:=hb;have hb:(okL p)[2]?=some false:=(by rw [gE (by show 2<6;decide)];exact Gw some (by rw [<- UO ((okL p)[2]'(by show 2<6;decide)),hb];rfl));exact⟨_,zc (za (zb hbW fY)) (i:=0) rfl,72,rfl,⟨fun h=>GD h (by decide),fun h=>by rw [hno hb] at h;cases h⟩,hbX⟩
   ·have hb:(!((okL p)[2]'(by show 2<6;decide)))=false:=hb;have hb:(okL p)[2]?=some true:=(by rw [gE (by show 2<6;decide)];exact Gw some (by rw [<- UO ((okL p)[2]'(by show 2<6;decide)),hb];rfl));refine⟨_,(zi (by omega)).trans rfl,3,(cvE rfl rfl),⟨by omega,fun i hi=>?_,hY.below hbW,zb hbW hevY,zb hbW hslY,hbX⟩,by decide⟩;by_cases hik:i=2
    ·rw [hik];exact hb
    ·exact hpre i (by omega)
  ·refine⟨3,rfl,by decide,?_⟩;refine⟨[i64 73,.func (.func 187) #[] #[At0 (L+2),At0 (L+1)]],rfl,zN (n:=6) (m:=2) (za hsl),hlt hsl,zl (X:=X) (v := .agg [i64 73,.func (.func 187) #[] #[At0 (L+2),At0 (L+1)]].toArray) znP rfl rfl rfl fun Y hbY fY sY=>?_⟩;have hY:=hD.below hbY;have hevY:=zb hbY hev;have hslY:=zb hbY hsl;refine⟨_,zc (za fY) (i:=1) rfl,cmo (ztF hY hevY) ?_⟩;rintro e W ⟨rfl,hbW⟩;have hbX:Bw w W:=((zst hbw hbY)).trans (hbW.mono (UX hbw.size hbY.size));refine biE (fun hb=>?_) fun hb=>?_
   ·have hb:(!((okL p)[3]'(by show 3<6;decide)))=true:=hb;have hb:(okL p)[3]?=some false:=(by rw [gE (by show 3<6;decide)];exact Gw some (by rw [<- UO ((okL p)[3]'(by show 3<6;decide)),hb];rfl));exact⟨_,zc (za (zb hbW fY)) (i:=0) rfl,73,rfl,⟨fun h=>GD h (by decide),fun h=>by rw [hno hb] at h;cases h⟩,hbX⟩
   ·have hb:(!((okL p)[3]'(by show 3<6;decide)))=false:=hb;have hb:(okL p)[3]?=some true:=(by rw [gE (by show 3<6;decide)];exact Gw some (by rw [<- UO ((okL p)[3]'(by show 3<6;decide)),hb];rfl));refine⟨_,(zi (by omega)).trans rfl,4,(cvE rfl rfl),⟨by omega,fun i hi=>?_,hY.below hbW,zb hbW hevY,zb hbW hslY,hbX⟩,by decide⟩;by_cases hik:i=3
    ·rw [hik];exact hb
    ·exact hpre i (by omega)
  ·refine⟨4,rfl,by decide,?_⟩;refine⟨[i64 75,.func (.func 190) #[] #[At0 (L+1)]],rfl,zN (n:=8) (m:=2) (za hsl),hlt hsl,zl (X:=X) (v := .agg [i64 75,.func (.func 190) #[] #[At0 (L+1)]].toArray) znP rfl rfl rfl fun Y hbY fY sY=>?_⟩;have hY:=hD.below hbY;have hevY:=zb hbY hev;have hslY:=zb hbY hsl;refine⟨_,zc (za fY) (i:=1) rfl,cmo (ztE hY) ?_⟩;rintro e W ⟨rfl,hbW⟩;have hbX:Bw w W:=((zst hbw hbY)).trans (hbW.mono (UX hbw.size hbY.size));refine biE (fun hb=>?_) fun hb=>?_
   ·have hb:(!((okL p)[4]'(by show 4<6;decide)))=true:=hb;have hb:(okL p)[4]?=some false:=(by rw [gE (by show 4<6;decide)];exact Gw some (by rw [<- UO ((okL p)[4]'(by show 4<6;decide)),hb];rfl));exact⟨_,zc (za (zb hbW fY)) (i:=0) rfl,75,rfl,⟨fun h=>GD h (by decide),fun h=>by rw [hno hb] at h;cases h⟩,hbX⟩
   ·have hb:(!((okL p)[4]'(by show 4<6;decide)))=false:=hb;have hb:(okL p)[4]?=some true:=(by rw [gE (by show 4<6;decide)];exact Gw some (by rw [<- UO ((okL p)[4]'(by show 4<6;decide)),hb];rfl));refine⟨_,(zi (by omega)).trans rfl,5,(cvE rfl rfl),⟨by omega,fun i hi=>?_,hY.below hbW,zb hbW hevY,zb hbW hslY,hbX⟩,by decide⟩;by_cases hik:i=4
    ·rw [hik];exact hb
    ·exact hpre i (by omega)
  ·refine⟨5,rfl,by decide,?_⟩;refine⟨[i64 74,.func (.func 191) #[] #[At0 (L+1)]],rfl,zN (n:=10) (m:=2) (za hsl),hlt hsl,zl (X:=X) (v := .agg [i64 74,.func (.func 191) #[] #[At0 (L+1)]].toArray) znP rfl rfl rfl fun Y hbY fY sY=>?_⟩;have hY:=hD.below hbY;have hevY:=zb hbY hev;have hslY:=zb hbY hsl;refine⟨_,zc (za fY) (i:=1) rfl,cmo (ztD hY) ?_⟩;rintro e W ⟨rfl,hbW⟩;have hbX:Bw w W:=((zst hbw hbY)).trans (hbW.mono (UX hbw.size hbY.size));refine biE (fun hb=>?_) fun hb=>?_
   ·have hb:(!((okL p)[5]'(by show 5<6;decide)))=true:=hb;have hb:(okL p)[5]?=some false:=(by rw [gE (by show 5<6;decide)];exact Gw some (by rw [<- UO ((okL p)[5]'(by show 5<6;decide)),hb];rfl));exact⟨_,zc (za (zb hbW fY)) (i:=0) rfl,74,rfl,⟨fun h=>GD h (by decide),fun h=>by rw [hno hb] at h;cases h⟩,hbX⟩
   ·have hb:(!((okL p)[5]'(by show 5<6;decide)))=false:=hb;have hb:(okL p)[5]?=some true:=(by rw [gE (by show 5<6;decide)];exact Gw some (by rw [<- UO ((okL p)[5]'(by show 5<6;decide)),hb];rfl));refine⟨_,(zi (by omega)).trans rfl,6,(cvE rfl rfl),⟨by omega,fun i hi=>?_,hY.below hbW,zb hbW hevY,zb hbW hslY,hbX⟩,by decide⟩;by_cases hik:i=5
    ·rw [hik];exact hb
    ·exact hpre i (by omega)
 ·have hc:¬ (j:Int)<6:=dF hc;obtain rfl:j=6:=by omega
  exact⟨0,rfl,⟨fun _=>by rw [zms];exact zkS hpre rfl,fun _=>rfl⟩,hbw⟩
def ThrsW (B:Nat) (w:Wd) (p:OA) (l:List (List InsD)):Prop:=∃ xs:List zsd,xs.map (·.1)=l/\RowB zsR B w p xs/\∀ x∈xs,RowB qz B w x.2.1 x.1/\∀ a,x.2.1=some a->a.block<B
structure PrgX (B:Nat) (w:Wd) (vs:List Value) (p:Prg):Prop where
 v:PrgV B w vs p
 th:∃ p3 c3,vs[3]?=some (.slice p3 p.threads.length c3)/\ThrsW B w p3 p.threads
 init:∃ p2 c2,vs[2]?=some (.slice p2 p.init.length c2)/\RowB zO B w p2 p.init
theorem ThrsW.below {B:Nat} {w w2:Wd} {p:OA} {l:List (List InsD)} (h:ThrsW B w p l) (hb:Below B w w2):ThrsW B w2 p l:=by
 obtain⟨xs,h1,h2,h3⟩:=h;exact⟨xs,h1,h2.below hb,fun x hx=>⟨(h3 x hx).1.below hb,(h3 x hx).2⟩⟩
theorem PrgX.below {B:Nat} {w w2:Wd} {vs:List Value} {p:Prg} (h:PrgX B w vs p) (hb:Below B w w2):PrgX B w2 vs p:=by
 obtain⟨h1,⟨p3,c3,h2,h3⟩,⟨p2,c2,h4,h5⟩⟩:=h;exact⟨h1.below hb,⟨p3,c3,h2,h3.below hb⟩,⟨p2,c2,h4,h5.below hb⟩⟩
def zgD (threads:List (List InsD)) (vals:List UInt8):Bool :=
 decide (1<=vals.length)&&(decide (vals.length<=12)&&((threads.all fun l=>decide ((zan l vals).length<=4096))&&(decide ((vals++threads.flatMap fun l=>zad (zan l vals)).length<=12)&&zd7 (vals++threads.flatMap fun l=>zad (zan l vals)))))
def zeP (threads:List (List InsD)) (vals:List UInt8):List UInt8:=ded (vals++threads.flatMap fun l=>zad (zan l vals))
def zhM (threads:List (List InsD)):Nat->List UInt8->Option (List UInt8)
 | 0,_=>none
 | n+1,vals=>if zgD threads vals=true then (if (zeP threads vals).length=vals.length then some vals else zhM threads n (zeP threads vals)) else none
structure RunK (l:List InsD) (R:RunD):Prop where
 m:R.many<=R.pc
 p:R.pc<=l.length
 d:∀ i,R.deps i<2^32
 c:R.ctl<2^32
 s:∀ i,R.data i<2^32/\R.ctrl i<2^32/\R.att i<2^32
theorem zus {n:Nat} (h:n<32):2^n<2^32:=Kc (by decide) h
theorem zk4 {f:Nat->Nat} {b:Nat} (h:∀ i,f i<b) {k v:Nat} (hv:v<b):∀ i,upd f k v i<b:=fun i=>by
 by_cases e:i=k
 ·rw [e,jd];exact hv
 ·rw [zaK _ _ e];exact h i
theorem RunK.emit {l:List InsD} {R:RunD} (h:RunK l R) {k a v m:UInt8} {d:Nat} (hd:d<2^32):(∀ i,(zci R k a v m d).deps i<2^32)/\(zci R k a v m d).ctl<2^32/\∀ i,(zci R k a v m d).data i<2^32/\(zci R k a v m d).ctrl i<2^32/\(zci R k a v m d).att i<2^32:=by
 unfold zci;exact⟨h.d,h.c,fun i=>⟨zk4 (fun i=>(h.s i).1) hd i,zk4 (fun i=>(h.s i).2.1) h.c i,(h.s i).2.2⟩⟩
theorem RunK.exec {l:List InsD} {R:RunD} {x:InsD} {v:UInt8} (h:RunK l R) (hx:zdV x) (hp:R.pc<l.length) (h12:l.length<=12):RunK l (qo R x v):=by
 obtain⟨e1,e2⟩:=zi8 (R:=R) (v:=v) hx;have hm:=h.m;have hb:=zus (n:=R.many) (by omega);have hs:(∀ i,(qo R x v).deps i<2^32)/\(qo R x v).ctl<2^32/\∀ i,(qo R x v).data i<2^32/\(qo R x v).ctrl i<2^32/\(qo R x v).att i<2^32:=by
  unfold qo zn0;rcases hx with ⟨ho,_⟩ | ⟨ho,_⟩ | ho
  ·rw [GC ho];have:=h.emit (k:=1) (a:=x.loc) (v:=v) (m:=x.mode) (d:=0) (by decide);exact⟨zk4 this.1 hb,this.2.1,this.2.2⟩
  ·rw [GB (by rw [ho];decide),GC ho];refine h.emit (k:=2) (a:=x.loc) (v:=(za6 x.ar x.an R).1) (m:=x.mode) ?_;unfold za6
   split
   ·exact h.d _
   ·exact (by decide:0<2^32)
  ·rw [GB (by rw [ho];decide),GB (by rw [ho];decide),GB (by rw [ho];decide),GB (by rw [ho];decide),GB (by rw [ho];decide),GB (by rw [ho];decide),GC ho];exact h.emit (k:=3) (a:=0) (v:=0) (m:=x.mode) (d:=0) (by decide)
 exact⟨by rw [e1,e2];omega,by rw [e1];omega,hs.1,hs.2.1,hs.2.2⟩
theorem RunK.go {l:List InsD} (h12:l.length<=12) (hx:∀ x∈l,zdV x):∀ (n:Nat) (R:RunD),RunK l R->RunK l (goR l n R)
 | 0,R,h=>h
 | n+1,R,h=>by
  unfold goR
  split
  ·exact h
  ·rename_i x he
   split
   ·exact h
   ·have hp:=(Jq.1 he).1;have hm:x∈l:=JY he;exact RunK.go h12 hx n _ (h.exec (hx x hm) hp h12)
theorem RunK.spread {l:List InsD} {dom:List UInt8} (h12:l.length<=12) (hx:∀ x∈l,zdV x):∀ (n:Nat) (R:RunD),RunK l R->∀ S∈z7 l dom n R,RunK l S
 | 0,R,h,S,hS=>by
  have hS:S∈[goR l l.length R]:=hS;rw [KC] at hS;rw [hS];exact RunK.go h12 hx _ _ h
 | n+1,R,h,S,hS=>by
  have hg:=RunK.go h12 hx l.length R h;unfold z7 at hS
  split at hS
  ·rw [KC] at hS;rw [hS];exact hg
  ·rename_i x he;obtain⟨v,_,hS⟩:=List.mem_flatMap.1 hS;have hp:=(Jq.1 he).1;have hm:x∈l:=JY he;exact RunK.spread h12 hx n _ (hg.exec (hx x hm) hp h12) S hS
theorem zmH {l:List InsD} {dom:List UInt8} (h12:l.length<=12) (hx:∀ x∈l,zdV x):∀ R∈zan l dom,R.many<=24/\zt0 R:=fun R hR=>by
 have h0:RunK l znm:=⟨Gh _,Gj _,fun _=>(by decide:0<2^32),(by decide:0<2^32),fun _=>⟨(by decide:0<2^32),(by decide:0<2^32),(by decide:0<2^32)⟩⟩;have h:=RunK.spread h12 hx _ _ h0 R hR;have:=h.m;have:=h.p;exact⟨by omega,fun i _=>h.s i⟩
theorem zmf {α:Type} {E:Enc α} {B:Nat} {w:Wd} {p:OA} {l:List α} (h:RowB E B w p l) {i:Nat} (hi:i<l.length):∃ b o,p=some ⟨b,o,none⟩/\b<B/\∀ i (h:i<l.length),zq w ⟨b,o+i*E.sz,none⟩ (E.enc l[i]):=by
 obtain⟨b,o,hp,hat⟩:=h.get;rcases hp with hp | hp
 ·omega
 ·exact⟨b,o,hp,(hat i hi).1,fun j hj=>(hat j hj).2⟩
section
variable {B n:Nat} {p:Prg} {pc:List Value} {V:List UInt8} {w:Wd}
theorem zqr (hB:B<=w.heap.size) (hP:PrgX B w pc p) (hG:GlobE w) (hok:zgR p=true) (hx:∀ l∈p.threads,∀ x∈l,zdV x) (h12:∀ l∈p.threads,l.length<=12) (hi1:1<=p.init.length) (hi12:p.init.length<=12) (his:zd7 p.init=true) (hQ:zhM p.threads n (ded p.init)=some V) :
  Calls PG 86 #[.agg pc.toArray,i64 16] w fun e w'=>(∃ (q:OA) (c:Nat),e = .returned (.tuple #[.slice q V.length c,i64 0])/\OwnS zO 5 w.heap.size w' q c V)/\Bw w w':=by
 refine zU 60 [.agg pc.toArray,i64 16] (.c .p (.s .p (.c .p .p))) Tryz.func86 ?_;obtain⟨L,hL⟩:=nm (w.heap.size);have hpc:=hP.v.size;have hthr:=hP.v.len.threads;refine⟨Unit,fun _=>⟨[(1,i64 16),(2,AtR L)],[]⟩,fun _ X=>X.heap[L]?=some (.cells pc.toArray 103 (0,0))/\Bw w X,⟨(),⟨.cons rfl (.cons (by rw [hL];rfl) .nil),rfl⟩,by rw [hL];exact zt w _,(zba w _)⟩,?_⟩;rintro _ X ⟨f0,hbX⟩;refine brF (brF ⟨pc,hpc,za f0,hlt f0,cmo (zmU (UX hB hbX.size) (hP.v.below (hbX.mono hB)) (hG.c.below hbX)) ?_⟩);rintro e Y ⟨m,rfl,hm,hbY⟩;have hm0:m=0:=hm.2 hok;subst hm0;refine brF ?_;have hwY:=zst hbX hbY;have f0:=zb hbY f0;obtain⟨_,⟨p3,c3,h3,xs,hxs,zbT,hxr⟩,⟨p2,c2,h2,hinit⟩⟩:=hP;refine⟨OA×Nat,fun s=>⟨[(1,i64 16),(2,AtR L),(6,.slice s.1 (ded p.init).length s.2)],[]⟩,fun s Z=>OwnS zO 5 w.heap.size Z s.1 s.2 (ded p.init)/\Z.heap[L]?=some (.cells pc.toArray 103 (0,0))/\Bw w Z,?_,?_⟩
 ·refine⟨_,zc (za f0) (i:=2) (by simpa using h2),cmo (zeq ((hinit.below (hwY.mono hB)).slr (UX hB hwY.size)) hi1 hi12 his) ?_⟩;rintro e Z ⟨⟨q,c,rfl,ho⟩,hbZ⟩;exact⟨(q,c),(cvE rfl rfl),OwnS.lower ho hwY.size,zb hbZ f0,(zst hwY hbZ)⟩
 rintro⟨q,c⟩ X ⟨ho,f0,hbX⟩;refine⟨Nat×List UInt8×OA×Nat,fun s=>⟨[(1,i64 16),(2,AtR L),(6,.slice s.2.2.1 s.2.1.length s.2.2.2)],[]⟩,
  fun s Z=>zhM p.threads s.1 s.2.1=some V/\OwnS zO 5 w.heap.size Z s.2.2.1 s.2.2.2 s.2.1/\Z.heap[L]?=some (.cells pc.toArray 103 (0,0))/\Bw w Z,fun s=>s.1,(n,ded p.init,q,c),
  (cvE rfl rfl),⟨hQ,ho,f0,hbX⟩,?_⟩
 rintro⟨k,vals,q,c⟩ X ⟨hQ,ho,f0,hbX⟩;dsimp only at hQ ho ⊢
 cases k with
 | zero=>cases hQ
 | succ k =>
 have hQ:(if zgD p.threads vals=true then (if (zeP p.threads vals).length=vals.length then some vals else zhM p.threads k (zeP p.threads vals)) else none)=some V:=hQ;have hr:zgD p.threads vals=true:=by
  cases h:zgD p.threads vals with
  | true=>rfl
  | false=>rw [h] at hQ;cases hQ
 rw [GC hr] at hQ;unfold zgD at hr;simp only [bAT,dE,Ql] at hr;obtain⟨r1,r2,r3,r4,r5⟩:=hr;refine brN (Ul (by omega)) ?_;have hq0:q=none->c=0:=fun e=>by
  rcases ho.inv with ⟨_,h,_⟩ | ⟨g,_,h,_⟩
  ·exact h
  ·rw [e] at h;cases h
 have hqb:∀ a,q=some a->a.block<X.heap.size:=fun a ha=>(zaP ho ha).2.1;refine cmo (zkY ho.row (by omega) hq0) ?_;rintro e Y ⟨⟨q1,k1,rfl,o1⟩,hbY⟩;have hwY:=zst hbX hbY;have f0Y:=zb hbY f0;have hl3:xs.length=p.threads.length:=by rw [<- hxs,QS]
 refine⟨_,zc (za f0Y) (i:=3) (by simpa using h3),?_⟩;obtain⟨g,hg⟩:∃ g:List InsD->List UInt8,g=fun l=>zad (zan l vals):=⟨_,rfl⟩;rw [<- hg] at r4 r5;have hnx:zeP p.threads vals=ded (vals++p.threads.flatMap g):=by unfold zeP;rw [hg]
 refine⟨Nat×OA×Nat,fun s=>⟨[(1,i64 16),(2,AtR L),(6,.slice q vals.length c),(7,.slice s.2.1 (vals++(p.threads.take s.1).flatMap g).length s.2.2),(33,.slice p3 p.threads.length c3),(34,i64 p.threads.length),(35,i64 (s.1:Nat))],[]⟩,
  fun s Z=>s.1<=p.threads.length/\OwnS zO 5 X.heap.size Z s.2.1 s.2.2 (vals++(p.threads.take s.1).flatMap g)/\Bw X Z,fun s=>p.threads.length-s.1,(0,q1,k1),
  ⟨.cons rfl (.cons rfl (.cons rfl (.cons (by rw [Uu,Qr,QO];rfl) (.cons rfl (.cons rfl (.cons rfl .nil)))))),rfl⟩,⟨Gj _,by show OwnS zO _ _ _ _ _ (vals++(p.threads.take 0).flatMap g);rw [Uu,Qr,QO];exact o1,hbY⟩,?_⟩
 rintro⟨m,q1,k1⟩ Y ⟨hm,o1,hbY⟩;dsimp only at hm o1 ⊢;have hwY:=zst hbX hbY;have f0Y:=zb hbY f0;have hXY:=hbY.size;have lenTake:∀ j,(vals++(p.threads.take j).flatMap g).length<=12:=fun j=>by
  have e:p.threads.flatMap g=(p.threads.take j).flatMap g++(p.threads.drop j).flatMap g:=by rw [<- Kg,JQ]
  rw [e,<- KR,lap] at r4;omega
 refine biE (fun hc=>?_) fun hc=>?_
 ·have hc:(m:Int)<(p.threads.length:Int):=dT hc;have hmt:m<p.threads.length:=by omega
  have hmx:m<xs.length:=by omega
  obtain⟨b3,o3,hp3,hb3,hat3⟩:=zmf (zbT.below (hwY.mono hB)) hmx;have hB2:b3<Y.heap.size:=nL hb3 (UX hB hwY.size);have e3:some (Value.slice p3 p.threads.length c3)=some (Value.slice (some ⟨b3,o3,none⟩) p.threads.length c3):=by rw [hp3]
  subst hp3;refine⟨m,rfl,hmt,zoE xs[m],by have:=zc (hat3 m hmx) (i:=0) (v:=zoE xs[m]) rfl;exact this,?_⟩;obtain⟨hrm,hrb⟩:=hxr _ (gM hmx);have hxm:xs[m].1=p.threads[m]:=by
   have:=Gw (fun l=>l[m]?) hxs;simp only [KW,gE hmx,gE hmt,Uh,Qb] at this;exact this
  have hmem:=gM hmt;have ex:=hx _ hmem;have e12:=h12 _ hmem;have hxl:xs[m].1.length=p.threads[m].length:=by rw [hxm]
  have hw:=zom (w:=Y) (l:=p.threads[m]) (dom:=vals) (q:=xs[m].2.1) (p:=q) (cap:=xs[m].2.2) (cd:=c) (by rw [<- hxm];exact (hrm.below (hwY.mono hB)).slr (UX hB hwY.size)) (ho.row.below hbY) e12 ex (fun R hR=>(zmH e12 ex R hR).1) (r3 _ hmem) (fun a ha=>nL (hrb a ha) (UX hB hwY.size)) (fun a ha=>nL (hqb a ha) hXY) (by omega);rw [<- hxl] at hw;have eg:zad (zan p.threads[m] vals)=g p.threads[m]:=by rw [hg]
  rw [eg] at hw;refine cmo hw ?_;rintro e Z ⟨⟨q2,k2,rfl,o2⟩,hbZ⟩;refine brF ?_;have tk:(p.threads.take (m+1)).flatMap g=(p.threads.take m).flatMap g++g p.threads[m]:=by
   rw [tsg hmt,Kg,KU,Qr,QO]
  have l1:=lenTake m;have l2:=lenTake (m+1);rw [tk,<- KR,lap] at l2;have hXZ:=hbY.trans (hbZ.mono hXY);have hsZ:=hbZ.size;refine zgt (E:=zO) (T:=5) (B:=X.heap.size) (l:=vals++(p.threads.take m).flatMap g) (news:=g p.threads[m]) (cap:=k1) (m:=(g p.threads[m]).length) Tryz.underlying72 k5 rfl rfl rfl (o1.below hbZ) rfl o2.row (fun e=>by
   rcases o2.inv with ⟨_,h,_⟩ | ⟨g',_,h,_⟩
   ·exact h
   ·rw [e] at h;cases h) (by omega) (by omega) (by show ((vals++(p.threads.take m).flatMap g).length+(g p.threads[m]).length)*1<=_;omega) ?_
  intro q4 k4 U oU gU hbU;rw [KR,<- tk] at oU ⊢;exact nxI (by omega) ⟨(m+1,q4,k4),(cvE rfl rfl),⟨hmt,oU,hXZ.trans hbU⟩,zdc (by omega)⟩
 ·have hc:¬ (m:Int)<(p.threads.length:Int):=dF hc;obtain rfl:m=p.threads.length:=by omega
  rw [Qy] at o1 ⊢;refine cmo (zeq o1.row (by rw [lap];omega) r4 r5) ?_;rintro e Z ⟨⟨q2,k2,rfl,o2⟩,hbZ⟩;rw [<- hnx] at o2 ⊢;have hXZ:=hbY.trans (hbZ.mono hXY);have hwZ:=zst hbX hXZ;refine biE (fun he=>?_) fun he=>?_
  ·have he:(zeP p.threads vals).length=vals.length:=by
    have:=dT he;omega
   rw [GC he] at hQ;simp only [Qb] at hQ;subst hQ;exact⟨⟨q,c,rfl,ho.below hXZ⟩,hwZ⟩
  ·have he:¬ (zeP p.threads vals).length=vals.length:=fun e=>(dF he) (by rw [e]);rw [GB he] at hQ;exact⟨(k,zeP p.threads vals,q2,k2),(cvE rfl rfl),⟨hQ,OwnS.lower o2 hwY.size,zb hXZ f0,hwZ⟩,QC k⟩
end
section
variable {w:Wd} {bP cv B:Nat} {pc:List Value} {qv:OA} {V:List UInt8} {p:Prg}
theorem zri (fP:w.heap[bP]?=some (.cells pc.toArray 103 (0,0))) (hB:B<=w.heap.size) (hP:PrgX B w pc p) (hil:p.locs.length=p.init.length) (hi6:p.init.length<=6) (hG:GlobE w) (hV:SlR zO w qv V) (hv1:1<=V.length) (hv12:V.length<=12) (hvs:zd7 V=true) (hd12:(ded V).length<=12)
  (ht4:p.threads.length<=4) (hT:∀ l∈p.threads,ThrQ V l) (hall:∀ k,k<=p.threads.length->zca ((p.threads.take k).map fun l=>(zM V l).length)<=4096) (hpb:∀ l∈p.threads,∀ P∈zM V l,PathB p.init.length P)
  (hsome:∀ ds∈zbY ((p.threads.map (zM V)).map List.length),(zkc p.init (zcc (p.threads.map (zM V)) ds)).isSome=true) :
  Calls PG 87 #[At0 bP,.slice qv V.length cv] w fun e w'=>(∃ (ms:List MixX) (q:OA) (c:Nat),e = .returned (.tuple #[.slice q ms.length c,.bool true])/\ms.map (·.m)=zlx p.init (p.threads.map (zM V))/\OwnS zi1 172 w.heap.size w' q c ms/\∀ x∈ms,NInM w.heap.size (fun k=>w.heap.size<=k) w' x)/\Bw w w':=by
 refine zU 89 [At0 bP,.slice qv V.length cv] (.c .p (.c .p (.s .p (.s .p (.c .p (.c .p (.s .p .p))))))) Tryz.func87 ?_;obtain⟨L,hL⟩:=nm (w.heap.size);have hbP:=hlt fP;refine⟨Unit,fun _=>⟨[(1,.slice qv V.length cv),(2,At0 L),(4,At0 (L+1)),(5,At0 (L+2))],[]⟩,fun _ X=>X.heap[L]?=some (.cells #[At0 bP] 169 (0,0))/\X.heap[L+1]?=some (.cells #[.slice none 0 0] 166 (0,0))/\X.heap[L+2]?=some (.cells #[.bool false] 4 (0,0))/\X.heap.size=L+3/\Bw w X,?_,?_⟩
 ·have s1:=wz w (.cells #[At0 bP] 169);have h2:=zt (w.alloc (.cells #[At0 bP] 169)) (.cells #[.slice none 0 0] 166);have s2:=wz (w.alloc (.cells #[At0 bP] 169)) (.cells #[.slice none 0 0] 166);have h3:=zt ((w.alloc (.cells #[At0 bP] 169)).alloc (.cells #[.slice none 0 0] 166)) (.cells #[.bool false] 4);have s3:=wz ((w.alloc (.cells #[At0 bP] 169)).alloc (.cells #[.slice none 0 0] 166)) (.cells #[.bool false] 4);rw [s1] at h2 s2;rw [s2] at h3 s3;refine⟨(),⟨.cons rfl (.cons (by rw [hL];rfl) (.cons (by rw [hL,<- s1];rfl) (.cons (by rw [hL,<- s2];rfl) .nil))),rfl⟩,?_,?_,?_,?_,?_⟩
  ·rw [hL];exact qe _ (qe _ (zt w _))
  ·rw [hL];exact qe _ h2
  ·rw [hL];exact h3
  ·rw [hL];exact s3
  ·exact (((zba w _)).alloc (by simp) _).alloc (by simp;omega) _
 rintro _ X ⟨f0,f1,f2,sX,hbX⟩;refine⟨Unit,fun _=>⟨[(1,.slice qv V.length cv),(2,At0 L),(4,At0 (L+1)),(5,At0 (L+2)),(6,At0 (L+3))],[]⟩,fun _ Y=>MxS w.heap.size Y L bP [] none 0 [] none 0/\Bw w Y,?_,?_⟩
 ·refine⟨(),⟨.cons rfl (.cons rfl (.cons rfl (.cons rfl (.cons (by rw [<- sX];rfl) .nil)))),rfl⟩,⟨qe _ f0,qe _ f1,qe _ f2,by rw [<- sX];exact zt X _,OwnS.nil,OwnS.nil,fun z hz=>(by cases hz),fun z hz=>(by cases hz)⟩,hbX.alloc hbX.size _⟩
 clear f0 f1 f2 sX hbX;rintro _ X ⟨hS,hbX⟩;have hP0:=hP;obtain⟨_,⟨p3,c3,h3,xs,hxs,zbT,hxr⟩,⟨p2,c2,h2,hinit⟩⟩:=hP;have hxl:xs.length=p.threads.length:=by rw [<- hxs,QS]
 refine⟨(List TpR×OA×Nat)×OA×Nat,fun s=>⟨[(2,At0 L),(4,At0 (L+1)),(5,At0 (L+2)),(6,At0 (L+3)),(7,.slice s.2.1 (p.threads.map fun l=>(zM V l).length).length s.2.2)],[]⟩,fun s Z=>MxS w.heap.size Z L bP (p.threads.map fun l=>(zM V l).length) s.2.1 s.2.2 s.1.1 s.1.2.1 s.1.2.2/\s.1.1.map (fun z=>z.1.map (·.1))=p.threads.map (zM V)/\Bw w Z,?_,?_⟩
 ·refine⟨_,zc (za hS.f0) (i:=0) rfl,_,zc (za (zb hbX fP)) (i:=3) (by simpa using h3),?_⟩;refine⟨Nat×(List TpR×OA×Nat)×OA×Nat,fun s=>⟨[(1,.slice qv V.length cv),(2,At0 L),(4,At0 (L+1)),(5,At0 (L+2)),(6,At0 (L+3)),(7,.slice s.2.2.1 ((p.threads.take s.1).map fun l=>(zM V l).length).length s.2.2.2),(8,i64 (zca ((p.threads.take s.1).map fun l=>(zM V l).length):Nat)),(23,.slice p3 p.threads.length c3),(24,i64 p.threads.length),(25,i64 (s.1:Nat))],[]⟩,
   fun s Z=>s.1<=p.threads.length/\MxS w.heap.size Z L bP ((p.threads.take s.1).map fun l=>(zM V l).length) s.2.2.1 s.2.2.2 s.2.1.1 s.2.1.2.1 s.2.1.2.2/\s.2.1.1.map (fun z=>z.1.map (·.1))=(p.threads.take s.1).map (zM V)/\Bw w Z,fun s=>p.threads.length-s.1,(0,([],none,0),none,0),
   (cvE rfl rfl),⟨Gj _,hS,rfl,hbX⟩,?_⟩
  clear hS hbX;rintro⟨k,⟨ts,pT,cT⟩,ps,cs⟩ Z ⟨hk,hS,hz,hbZ⟩;dsimp only at hk hS hz ⊢;have hts:ts.length=k:=by
   have:=Gw List.length hz;rw [QS,QS,Qw] at this;omega
  refine biE (fun hc=>?_) fun hc=>?_
  ·have hc:(k:Int)<(p.threads.length:Int):=dT hc;have hkl:k<p.threads.length:=by omega
   have hkx:k<xs.length:=by omega
   have hZs:=hbZ.size;obtain⟨l,hlk⟩:∃ l,p.threads[k]=l:=⟨_,rfl⟩;have hlm:l∈p.threads:=by rw [<- hlk];exact gM hkl
   have hQ:=hT l hlm;obtain⟨b3,o3,hp3,hb3,hat3⟩:=zmf (zbT.below (hbZ.mono hB)) hkx;have hB2:b3<Z.heap.size:=by omega
   have e3:some (Value.slice p3 p.threads.length c3)=some (Value.slice (some ⟨b3,o3,none⟩) p.threads.length c3):=by rw [hp3]
   subst hp3;refine⟨k,rfl,hkl,zoE xs[k],by have:=zc (hat3 k hkx) (i:=0) (v:=zoE xs[k]) rfl;exact this,?_⟩;obtain⟨hrm,hrb⟩:=hxr _ (gM hkx);have hxm:xs[k].1=l:=by
    have:=Gw (fun l=>l[k]?) hxs;simp only [KW,gE hkx,gE hkl,Uh,Qb] at this;rw [this,hlk]
   have hpt:(p.threads.take (k+1))=p.threads.take k++[l]:=by rw [tsg hkl,hlk]
   refine cmo (zsh (l:=xs[k].1) (vals:=V) ((hrm.below (hbZ.mono hB)).slr (by omega)) (hV.below hbZ) hv1 hv12 hvs (by rw [hxm];exact hQ.ex) (by rw [hxm];exact hQ.ok) (hG.below hbZ) (by rw [hxm];exact zmH hQ.l12 hQ.ex) (by rw [hxm];exact hQ.m) (fun a ha=>by have:=hrb a ha;omega) hd12) ?_;rintro e Y ⟨⟨rk,pk,ck,rfl,hrk,ork,onk⟩,hbY⟩;rw [hxm] at hrk;have hrk:rk.map (·.1)=zM V l:=hrk;have hrkl:rk.length=(zM V l).length:=by rw [<- hrk,QS]
   have hpl:(zM V l).length<=4096:=by rw [QS];exact hQ.m
   have hSY:=hS.below hbY;have hpr:=hall (k+1) hkl;have hpr0:=hall k (by omega);rw [hpt,QV] at hpr;have hpr:zca ((p.threads.take k).map (fun l=>(zM V l).length)++[(zM V l).length])<=4096:=hpr;rw [zgG,<- hrkl] at hpr;obtain⟨A,hA⟩:=nm (zca ((p.threads.take k).map fun l=>(zM V l).length));have hA2:zca ((p.threads.take (k+1)).map fun l=>(zM V l).length)=A*rk.length:=by
    rw [hpt,QV];show zca ((p.threads.take k).map (fun l=>(zM V l).length)++[(zM V l).length])=_;rw [zgG,<- hrkl,hA]
   rw [<- hA] at hpr hpr0 ⊢;obtain⟨nz,hnz⟩:∃ nz:TpR,nz=(rk,pk,ck):=⟨_,rfl⟩;have hen:[Value.slice pk rk.length ck]=tpE.enc nz:=by rw [hnz];rfl
   refine⟨((A*rk.length:Nat):Int),by rw [<- QM];exact zi (by omega),brF (brN (Ul (by omega)) ⟨_,zc (za hSY.f3) (i:=0) rfl,⟨by decide,by decide,rfl⟩,tpE.enc nz,by rw [<- hen];rfl,?_⟩)⟩;have hb1:Bw Y (Y.alloc (.cells (tpE.enc nz).toArray 233)):=zba _ _;have hS1:=hSY.below hb1;have ork1:=ork.below hb1;have onk1:=fun x hx=>(onk x hx).same (Z:=Y.alloc (.cells (tpE.enc nz).toArray 233)) fun {α E T c q l} _ ho=>ho.below hb1;unfold zeb zas;show SatR _ _;refine zvU hS1.rk (qt tpE nz) (by have:=hb1.size;have:=hbY.size;omega) (by omega) fun p' c' U oU gU hat1=>?_;have f0U:=qi hS1.f0 hS1.rk (by decide) gU;have f1U:=qi hS1.f1 hS1.rk (by decide) gU;have f2U:=qi hS1.f2 hS1.rk (by decide) gU;have f3U:=qi hS1.f3 hS1.rk (by decide) gU;refine zw zvO f3U (o:=0) (v := .slice p' (ts++[nz]).length c') rfl rfl (by show 0<1;decide) rfl fun S fS gS sS=>?_;have hbZY:=hbZ.trans (hbY.mono hZs);have sY:=hbY.size;have sb1:=hb1.size;have hbU:Bw w U:=(hbZY.trans (hb1.mono (by omega))).trans (jg hS1.rk (by omega) (Gh _) gU);have hbS:Bw w S:=hbU.trans (zo gS hbU.size (by omega));have hSS:MxS w.heap.size S L bP ((p.threads.take k).map fun l=>(zM V l).length) ps cs (ts++[nz]) p' c':=by
    have kU:∀ {α:Type} {E:Enc α} {T cc:Nat} {r:OA} {ll:List α},T≠233->T≠232->OwnS E T w.heap.size (Y.alloc (.cells (tpE.enc nz).toArray 233)) r cc ll->OwnS E T w.heap.size S r cc ll:=fun {α E T cc r ll} h1 h2 h=>qj (zag h hS1.rk h1 gU) f3U h2 gS;have kB:∀ {b:Nat} {o:Obj},b≠L+3->U.heap[b]?=some o->S.heap[b]?=some o:=fun {b o} hb h=>(gS.block b (hlt h) (by simpa using hb)).trans h;have kP:∀ x:zdE,PthO w.heap.size (Y.alloc (.cells (tpE.enc nz).toArray 233)) x->PthO w.heap.size S x:=fun x hx=>hx.same fun {α E T c q l} ht ho=>kU (by rcases ht with rfl | rfl <;> decide) (by rcases ht with rfl | rfl <;> decide) ho;refine⟨kB (by omega) f0U,kB (by omega) f1U,kB (by omega) f2U,fS,kU (by decide) (by decide) hS1.own,qj oU f3U (by decide) gS,fun z hz=>?_,fun z hz=>?_⟩
    ·rcases QW.1 hz with hz | hz
     ·exact kU (by decide) (by decide) (hS1.n1 z hz)
     ·rw [KC.1 hz,hnz];exact kU (by decide) (by decide) (ork1.lower hZs)
    ·rcases QW.1 hz with hz | hz
     ·exact fun x hx=>kP x (hS1.n2 z hz x hx)
     ·rw [KC.1 hz,hnz];exact fun x hx=>kP x ((onk1 x hx).mono hZs)
   clear hS1 ork1 onk1 hSY hS oU gU hat1 f0U f1U f2U f3U fS gS;refine⟨⟨by decide,by decide,rfl⟩,zC.enc rk.length,rfl,?_⟩;have hb2:Bw S (S.alloc (.cells (zC.enc rk.length).toArray 3)):=zba _ _;have hS2:=hSS.below hb2;have sbS:=hbS.size;have sb2:=hb2.size;unfold zeb zas;show SatR _ _;refine zqm hS2.own (qt zC rk.length) (by omega) (by rw [QS,Qw];omega) fun p2' c2' V' oV gV hat2=>?_;rw [zaz] at gV;have hSV:=hS2.size oV gV;have hzz:((p.threads.take k).map fun l=>(zM V l).length)++[rk.length]=(p.threads.take (k+1)).map fun l=>(zM V l).length:=by
    rw [hpt,QV,hrkl];rfl
   rw [hzz] at hSV ⊢;refine nxI (by omega) ⟨(k+1,(ts++[nz],p',c'),p2',c2'),⟨.cons rfl (.cons rfl (.cons rfl (.cons rfl (.cons rfl (.cons rfl (.cons (by show _=some (i64 (zca ((p.threads.take (k+1)).map fun l=>(zM V l).length):Nat));rw [hA2];rfl) (.cons rfl (.cons rfl (.cons rfl .nil))))))))),rfl⟩,⟨hkl,hSV,?_,hbS.trans ((hb2.mono sbS).trans (jg hS2.own (by omega) (Gh _) gV))⟩,zdc (by omega)⟩;rw [hpt,QV,QV,hz,hnz];show _++[rk.map (·.1)]=_++[zM V l];rw [hrk]
  ·have hc:¬ (k:Int)<(p.threads.length:Int):=dF hc;obtain rfl:k=p.threads.length:=by omega
   rw [Qy] at hz hS ⊢;exact⟨((ts,pT,cT),ps,cs),(cvE rfl rfl),hS,hz,hbZ⟩
 rintro⟨⟨ts,pT,cT⟩,ps,cs⟩ X ⟨hS,hz,hbX⟩;dsimp only at hS hz ⊢;obtain⟨Q,hQ⟩:=nm (X.heap.size);refine⟨Unit,fun _=>⟨[(2,At0 L),(4,At0 (L+1)),(5,At0 (L+2)),(6,At0 (L+3)),(7,.slice ps (p.threads.map fun l=>(zM V l).length).length cs),(13,At0 Q)],[]⟩,fun _ Z=>MxS w.heap.size Z L bP (p.threads.map fun l=>(zM V l).length) ps cs ts pT cT/\Z.heap[Q]?=some (.cells #[.slice none 0 0] 166 (0,0))/\Z.heap.size=Q+1/\Bw w Z,?_,?_⟩
 ·refine⟨(),⟨.cons rfl (.cons rfl (.cons rfl (.cons rfl (.cons rfl (.cons (by rw [hQ];rfl) .nil))))),rfl⟩,hS.below ((zba X _)),by rw [hQ];exact zt X _,by rw [hQ];exact wz _ _,hbX.alloc hbX.size _⟩
 have hQw:w.heap.size+4<=Q:=by have:=hlt hS.f3;omega
 clear hS hbX hQ;clear X;rintro _ X ⟨hS,fQ,sX,hbX⟩;obtain⟨Ts,hTs⟩:=nm (p.threads.map (zM V));have hTl:Ts.length=p.threads.length:=by rw [hTs,QS]
 have htl:ts.length=p.threads.length:=by have:=Gw List.length hz;simpa using this
 have hsz:(p.threads.map fun l=>(zM V l).length)=Ts.map List.length:=by rw [hTs,UP];rfl
 rw [hsz] at hS ⊢;rw [<- hTs] at hsome hz ⊢;have hsl1:(Ts.map List.length).length<=1000:=by rw [QS];omega
 have hsl2:∀ n∈Ts.map List.length,n<=1000000:=fun n hn=>by
  rw [hTs,UP] at hn;obtain⟨l,hl,rfl⟩:=US.1 hn;have:=(hT l hl).m;show ((zan l (ded V)).map zcw).length<=_;rw [QS];omega
 have hmemT:∀ z∈ts,∀ x∈z.1,PathB p.init.length x.1:=fun z hz' x hx=>by
  have h1:z.1.map (·.1)∈Ts:=by rw [<- hz];exact US.2 ⟨z,hz',rfl⟩
  rw [hTs] at h1;obtain⟨l,hl,he⟩:=US.1 h1;exact hpb l hl x.1 (by rw [he];exact US.2 ⟨x,hx,rfl⟩)
 refine cmo zph ?_;rintro e V1 ⟨rfl,fo,sV1,hbV1⟩;have hI:=zsv fo (hS.own.row.below hbV1) (fun a ha=>by have:=(zy hS.own ha).2.1;omega) hsl1 hsl2;have hS1:=hS.below hbV1;have hb1:Bw w V1:=zst hbX hbV1;have hG0:Gath zi1 172 166 Q V1.heap.size Q V1 (NInM w.heap.size) [] (fun k=>k=Q) V1 :=
  ⟨Gh _,rfl,fun k hk=>by omega,⟨none,0,zb hbV1 fQ,OwnS.nil,fun a h=>by cases h⟩,fun x hx=>(by cases hx),Gm _ _⟩
 obtain⟨f,hf⟩:∃ f:List Nat->Option MixD,f=fun ds=>zkc p.init (zcc Ts ds):=⟨_,rfl⟩;have hmix:zlx p.init Ts=(zbY (Ts.map List.length)).filterMap f:=by rw [hf];rfl
 refine zcM (za9 _) rfl (lb := #[At0 X.heap.size]) rfl rfl hI (Gh _) (fun k hk=>⟨?_,rfl⟩) (fun pre vs W ⟨l,q,_,h,_⟩=>by rw [h];rfl) (by decide)
  (fun k=>k=Q) (fun pre F Y=>∃ ms,(ms.map (·.m)=pre.filterMap f/\ms.length<=pre.length)/\Gath zi1 172 166 Q V1.heap.size Q V1 (NInM w.heap.size) ms F Y) (fun _ _ _ _=>False) (fun k hk=>?_) (Gath.iter (zic _) (by omega)) (fun ex=>⟨fun _ _ _ _ h=>h.elim,fun _ _ _ _ h=>h.elim⟩) ⟨[],⟨rfl,Gj _⟩,hG0⟩ ?_ ?_ ?_
 ·rcases hk with (rfl | ⟨a,ha,rfl⟩) | h
  ·omega
  ·have:=(zy hS.own ha).2.1;omega
  ·exact h.elim
 ·rcases hk with rfl | ⟨a,ha,rfl⟩
  ·omega
  ·obtain⟨_,_,cur,hc⟩:=zy hS.own ha;intro e;rw [e,fQ] at hc;simp at hc
 ·rintro yl pre ds vs F Y hyl hpre hJ0 ⟨l,qd,hlast,rfl,hsl,hcel⟩ hfy ⟨lo,hlo⟩;have hdx:ds=l:=by simpa using hlast
  subst hdx;refine⟨rfl,F,KeepsG.refl _ _,hJ0,?_⟩;rintro O Y2 hY2 ⟨ms,⟨hms,hml⟩,hG2⟩;have hslY:SlR zC Y2 qd ds:=by
   rw [hY2];refine q5 hsl fun a ha=>zj fun e=>?_;obtain⟨cur,hcur⟩:=hcel a ha;rw [e,hlo] at hcur
   cases hcur
  obtain⟨hdl,hdlt⟩:=zmI (hpre.subset (JO _ (KC.2 rfl)));have hsome1:=hsome ds (hpre.subset (JO _ (KC.2 rfl)));rw [QS] at hdl;have hY2s:=hG2.size;have old:∀ {k:Nat} {ob:Obj},k<Q->V1.heap[k]?=some ob->Y2.heap[k]?=some ob:=fun {k ob} hk h=>(hG2.old.block k hk).trans h;have g0:=old (by omega) hS1.f0;have g3:=old (by omega) hS1.f3;have kR:∀ {α:Type} {E:Enc α} {T cc:Nat} {r:OA} {ll:List α},T≠166->OwnS E T w.heap.size X r cc ll->OwnS E T w.heap.size Y2 r cc ll:=fun {α E T cc r ll} hT h=>h.same fun a ha=>by
   have hq:a.block≠Q:=fun e=>by
    obtain⟨_,_,cur,hc⟩:=zy h ha;rw [e,fQ] at hc;simp at hc;exact hT hc.2.symm
   have:=(zy h ha).2.1;exact (hG2.old.block _ (by omega)).trans (hbV1.block _ this)
  have rkY:=kR (by decide) hS.rk;have n1Y:=fun z hz=>kR (by decide) (hS.n1 z hz);have n2Y:∀ z∈ts,∀ x∈z.1,PthO w.heap.size Y2 x:=fun z hz x hx=>(hS.n2 z hz x hx).same fun {α E T c q l} ht ho=>kR (by rcases ht with rfl | rfl <;> decide) ho;have fPY:Y2.heap[bP]?=some (.cells pc.toArray 103 (0,0)):=old (by omega) ((hb1.block bP hbP).trans fP);have hbwY:Bw w Y2:=hb1.trans (hG2.old.mono (by omega));refine⟨Nat×List zdE×OA×Nat,fun s=>⟨[(2,At0 L),(6,At0 (L+3)),(13,At0 Q),(15,.slice s.2.2.1 s.2.1.length s.2.2.2),(58,.slice qd ds.length ds.length),(59,i64 ds.length),(60,i64 (s.1:Nat))],[]⟩,
   fun s Z=>s.1<=ds.length/\OwnS jE 241 Y2.heap.size Z s.2.2.1 s.2.2.2 s.2.1/\s.2.1.map (·.1)=zcc (Ts.take s.1) (ds.take s.1)/\s.2.1.length=s.1/\(∀ x∈s.2.1,∃ z∈ts,x∈z.1)/\Bw Y2 Z,fun s=>ds.length-s.1,(0,[],none,0),
   (cvE rfl rfl),⟨Gj _,OwnS.nil,by simp [zcc],rfl,fun x hx=>(by cases hx),Gm _ _⟩,?_⟩
  rintro⟨k,Cs,pC,cC⟩ Z ⟨hk,oC,hCs,hCl,hCm,hbZ⟩;dsimp only at hk oC hCs hCl hCm ⊢;have hZs:=hbZ.size;refine biE (fun hc=>?_) fun hc=>?_
  ·have hc:(k:Int)<(ds.length:Int):=dT hc;have hkl:k<ds.length:=by omega
   have hkt:k<ts.length:=by omega
   obtain⟨z,hzk⟩:∃ z,ts[k]=z:=⟨_,rfl⟩;have hzm:z∈ts:=by rw [<- hzk];exact gM hkt
   have hkT:k<Ts.length:=by omega
   have hzT:Ts[k]=z.1.map (·.1):=by
    have h1:Ts[k]?=some (z.1.map (·.1)):=(by rw [<- hz,KW,gE hkt,hzk];rfl);rw [gE hkT] at h1;exact Ui h1
   obtain⟨d,hd⟩:∃ d,ds[k]=d:=⟨_,rfl⟩;have hdz:d<z.1.length:=by
    have:=hdlt k (Ts[k].length) d (by rw [KW,gE hkT];rfl) (by rw [gE hkl,hd]);rw [hzT,QS] at this;exact this
   obtain⟨x,hx⟩:∃ x,z.1[d]=x:=⟨_,rfl⟩;have hxm:x∈z.1:=by rw [<- hx];exact gM hdz
   have hpick:zcc (Ts.take (k+1)) (ds.take (k+1))=zcc (Ts.take k) (ds.take k)++[x.1]:=by
    rw [tsg hkT,tsg hkl,hd,hzT,zgI _ _ _ _ (by rw [Qw,Qw];omega),KW,gE hdz,hx];rfl
   obtain⟨bD,oD,hpD,hlD,hatD⟩:=(hslY.below hbZ).at hkl;obtain⟨bT,oT,hpT,hlT,hatT⟩:=(rkY.below hbZ).row.at hkt;obtain⟨bz,oz,hpz,hlz,hatz⟩:=((n1Y z hzm).below hbZ).row.at hdz;subst hpD;subst hpT;refine⟨k,rfl,hkl,i64 d,by have:=zc (hatD k hkl) (i:=0) (v:=i64 d) (by rw [hd];rfl);exact this,_,zc (za (zb hbZ g3)) (i:=0) rfl,k,rfl,hkt,.slice z.2.1 z.1.length z.2.2,by have:=zc (hatT k hkt) (i:=0) (v := .slice z.2.1 z.1.length z.2.2) (by rw [hzk];rfl);exact this,?_⟩;rw [hpz];refine⟨d,rfl,hdz,jE.enc x,jE.len x,by rw [<- hx];exact hatz d hdz,hlz,?_⟩;refine⟨⟨by decide,by decide,rfl⟩,jE.enc x,zbh (jE.len x) rfl,?_⟩;have hb2:Bw Z (Z.alloc (.cells (jE.enc x).toArray 241)):=zba _ _;have sb2:=hb2.size;unfold zeb zas;show SatR _ _;refine zvW (oC.below hb2) (qt jE x) (by omega) (by omega) fun p' c' U oU gU hat1=>nxI (by omega) ⟨(k+1,Cs++[x],p',c'),(cvE rfl rfl),⟨hkl,oU,by rw [QV,hCs,hpick];rfl,by rw [lap,hCl];rfl,fun y hy=>?_,hbZ.trans ((hb2.mono hZs).trans (jg (oC.below hb2) (by omega) (Gh _) gU))⟩,zdc (by omega)⟩;rcases QW.1 hy with hy | hy
   ·exact hCm y hy
   ·rw [KC.1 hy];exact⟨z,hzm,hxm⟩
  have hc:¬ (k:Int)<(ds.length:Int):=dF hc;obtain rfl:k=ds.length:=by omega
  rw [Qy,JE (by omega)] at hCs;obtain⟨q1,k1,q2,k2,q3,k3,q4,k4,hvs,_⟩:=hP0.v.h;have hpc1:pc[1]?=some (.slice q1 p.init.length k1):=by rw [hvs,<- hil];rfl
  have hZw:w.heap.size<=Z.heap.size:=by have:=hbwY.size;omega
  refine⟨_,zc (za (zb hbZ g0)) (i:=0) rfl,?_⟩;obtain⟨mx,hmx⟩:∃ mx,zkc p.init (Cs.map (·.1))=some mx:=by
   rw [hCs];exact Option.isSome_iff_exists.1 hsome1
  have hfd:f ds=some mx:=by rw [hf,<- hmx,hCs]
  refine cmo (zlW (zb hbZ fPY) hpc1 h2 ((hinit.below (((zst hbwY hbZ)).mono hB)).slr (by omega)) hi6 oC.row (fun x hx=>?_) (fun x hx=>?_) (by omega)) ?_
  ·obtain⟨z,hz1,hx1⟩:=hCm x hx;obtain⟨o1,o2,o3,o4⟩:=n2Y z hz1 x hx1;refine⟨fun a ha=>?_,(o1.below hbZ).row,(o2.below hbZ).row,(o3.below hbZ).row,(o4.below hbZ).row⟩;rcases ha with ha | ha | ha
   ·exact (zy (o2.below hbZ) ha).2.1
   ·exact (zy (o3.below hbZ) ha).2.1
   ·exact (zy (o4.below hbZ) ha).2.1
  ·obtain⟨z,hz1,hx1⟩:=hCm x hx;exact hmemT z hz1 x hx1
  rintro e U ⟨⟨vs,hres⟩,hbU⟩;rw [hmx] at hres;obtain⟨rfl,x1,x2,x3,x4,y1,y2,y3,y4,xs',ys',hvs',m1,m2,m3,m4,m5,m6,m7,m8⟩:=hres;obtain⟨nx,hnx⟩:∃ nx:MixX,nx=⟨mx,x1,y1,x2,y2,x3,y3,x4,y4,xs',ys'⟩:=⟨_,rfl⟩;have hen:vs=zi1.enc nx:=by rw [hvs',hnx];rfl
  have hvl:vs.length=336:=by rw [hen];exact zi1.len nx
  have hv1:vs.all Value.oneCell'=true:=by rw [hen];exact zkd nx
  have hUs:=hbU.size;refine zl (X:=U) (v := .agg vs.toArray) zpA hvl zac hv1 fun V' hbV fV sV=>?_;have fV:V'.heap[U.heap.size]?=some (.cells vs.toArray 172 (0,0)):=fV;refine brF ?_;have hbY2V:Bw Y2 V':=(hbZ.trans (hbU.mono hZs)).trans (hbV.mono (by omega));obtain⟨pr,cr,h4,h5,h6⟩:=hG2.row;refine⟨_,zc (za (zb hbY2V h4)) (i:=0) rfl,vs,hvl,za fV,hlt fV,⟨by decide,by decide,zac⟩,zi1.enc nx,by rw [<- hen];exact zbh hvl zac,?_⟩;have hpl:pre.length<1000000000:=by
   obtain⟨t,ht⟩:=hpre;have h7:(pre++[ds]++t).length=qg (Ts.map List.length).reverse:=by
    rw [ht];unfold zbY;rw [QS,KX]
   have h8:qg (Ts.map List.length).reverse<=4096:=by
    have h9:=hall p.threads.length (Gh _);rw [Qy,hsz] at h9;rw [znu];exact h9
   simp only [lap,Qu] at h7;omega
  have hnw:∀ (G:Nat->Prop) (S:Wd),(∀ k,Y2.heap.size<=k->k<V'.heap.size->S.heap[k]?=V'.heap[k]?)->(∀ k,Y2.heap.size<=k->k<V'.heap.size->G k)->NInM w.heap.size G S nx:=by
   intro G S hs hg;have kp:∀ {α:Type} {E:Enc α} {T cc:Nat} {r:OA} {ll:List α},OwnS E T Z.heap.size U r cc ll->RowIn E T w.heap.size G S r cc ll:=fun {α E T cc r ll} h=>by
    have ol:∀ a,r=some a->Y2.heap.size<=a.block/\a.block<V'.heap.size:=fun a ha=>⟨by have:=(zy h ha).1;omega,by have:=(zy h ha).2.1;omega⟩;exact⟨OwnS.lower ((h.below hbV).same fun a ha=>hs _ (ol a ha).1 (ol a ha).2) hZw,fun a ha=>hg _ (ol a ha).1 (ol a ha).2⟩
   rw [hnx];exact⟨m3,m6,kp m1,kp m2,kp m4,fun y hy=>kp (m5 y hy),kp m7,fun y hy=>kp (m8 y hy)⟩
  obtain⟨v,Y5,hrun,S,hrun2,F',hG',hK',hFF'⟩:=hG2.step (P:=PG) (ty:=166) (cap1:=1) (zic _) (by decide) Tryz.underlying166 zpA rfl rfl (by show _=336;exact zac) zu4 rfl (by omega) (Gh _) hbY2V nx (by omega) (by show (ms.length+1)*2488<=_;omega) hnw pr cr h4;unfold zeb zas;refine SatR.mk hrun (SatR.mk hrun2 ⟨F',⟨_,⟨?_,by rw [lap,lap];show ms.length+1<=pre.length+1;omega⟩,hG'⟩,hK'⟩);rw [QV,List.filterMap_append,hms];show _++[nx.m]=_++List.filterMap f [ds];rw [show List.filterMap f [ds]=[mx] by rw [List.filterMap_cons,hfd];rfl,hnx]
 ·rintro D F Y hD hfD ⟨ms,⟨hms,hml⟩,hG⟩ hdef;obtain⟨pr,cr,h4,h5,h6⟩:=hG.row;have hYs:=hG.size;have old:∀ {k:Nat} {ob:Obj},k<Q->V1.heap[k]?=some ob->Y.heap[k]?=some ob:=fun {k ob} hk h=>(hG.old.block k hk).trans h;have g1:=old (by omega) hS1.f1;have g2:=old (by omega) hS1.f2;refine⟨_,zc (za h4) (i:=0) rfl,zw zu4 g1 (o:=0) (v := .slice pr ms.length cr) rfl rfl (by show 0<1;decide) rfl fun Z1 fZ1 gZ1 sZ1=>zw k4 ((gZ1.block (L+2) (hlt g2) (by simp)).trans g2) (o:=0) (v := .bool true) rfl rfl (by show 0<1;decide) rfl fun Z2 fZ2 gZ2 sZ2=>?_⟩;have k2:∀ k,k<Y.heap.size->k≠L+1->k≠L+2->Z2.heap[k]?=Y.heap[k]?:=fun k hk n1 n2=>(gZ2.block k (by rw [sZ1];exact hk) (by simpa using n2)).trans (gZ1.block k hk (by simpa using n1));refine⟨_,rfl,(k2 D (hlt hdef) (by omega) (by omega)).trans hdef,?_⟩;have f2':=(gZ2.block (L+1) (hlt fZ1) (by simp)).trans fZ1;have kp:∀ a:Addr,a.block≠L+1->a.block≠L+2->F a.block->a.block<Y.heap.size->(Z2.putObj D (.deferred none)).heap[a.block]?=Y.heap[a.block]?:=fun a n1 n2 h2 h3=>(zj fun e=>by rw [<- e] at hfD;exact hfD h2).trans (k2 _ h3 n1 n2);have hwY:=hb1.trans (hG.old.mono (by omega));have b2:=(hwY.trans (zo gZ1 hwY.size (by omega))).trans (zo gZ2 (by have:=hwY.size;omega) (by omega));have ne:∀ {α:Type} {E:Enc α} {T B' cc:Nat} {r:OA} {ll:List α},T≠166->T≠4->OwnS E T B' Y r cc ll->∀ a,r=some a->a.block≠L+1/\a.block≠L+2:=fun {α E T B' cc r ll} t1 t2 h a ha=>by
   obtain⟨_,_,cur,hc⟩:=zy h ha;refine⟨fun e=>?_,fun e=>?_⟩
   ·rw [e,g1] at hc;simp at hc;exact t1 hc.2.symm
   ·rw [e,g2] at hc;simp at hc;exact t2 hc.2.symm
  refine⟨.slice pr ms.length cr,zc (za ((zj (by omega)).trans f2')) (i:=0) rfl,.bool true,zc (za ((zj (by omega)).trans fZ2)) (i:=0) rfl,⟨ms,pr,cr,rfl,by rw [hms,hmix],?_,fun x hx=>?_⟩,z8 b2 (by omega) _⟩
  ·exact OwnS.lower (h5.same fun a ha=>kp a (ne (by decide) (by decide) h5 a ha).1 (ne (by decide) (by decide) h5 a ha).2 (h6 a ha) (zy h5 ha).2.1) (by omega)
  ·exact (hG.nest x hx).same fun {α E T c q l} t1 t2 t3 hr=>⟨hr.own.same fun a ha=>kp a (ne t2 t3 hr.own a ha).1 (ne t2 t3 hr.own a ha).2 (hr.inF a ha) (zy hr.own ha).2.1,fun a ha=>(zy hr.own ha).1⟩
 ·rintro D ex pre F Y hD hfD hpre h;exact h.elim
end
abbrev jY (p:Prg) (V:List UInt8):List MixD:=zlx p.init (p.threads.map (zM V))
def zaj (m:MixD):List ExD:=if zdz m 1=0 then [] else zfN m
abbrev zcs (p:Prg) (V:List UInt8):List ExD:=(jY p V).flatMap zaj
structure CandQ (p:Prg) (n:Nat) (V:List UInt8) (most:Nat):Prop where
 ok:zgR p=true
 il:p.locs.length=p.init.length
 i1:1<=p.init.length
 i6:p.init.length<=6
 is:zd7 p.init=true
 vals:zhM p.threads n (ded p.init)=some V
 v1:1<=V.length
 v12:V.length<=12
 vs:zd7 V=true
 d12:(ded V).length<=12
 t4:p.threads.length<=4
 th:∀ l∈p.threads,ThrQ V l
 all:∀ k,k<=p.threads.length->zca ((p.threads.take k).map fun l=>(zM V l).length)<=4096
 pb:∀ l∈p.threads,∀ P∈zM V l,PathB p.init.length P
 some:∀ ds∈zbY ((p.threads.map (zM V)).map List.length),(zkc p.init (zcc (p.threads.map (zM V)) ds)).isSome=true
 ml:(jY p V).length<=5000
 mb:∀ m∈jY p V,MixB m
 m20:most<=20000
 cnt:((jY p V).map fun m=>zdz m 20001).sum<=most
 len:(zcs p V).length<=30000
theorem zoF {l:List Nat} (k:Nat):(l.take k).sum<=l.sum:=by
 have:l.sum=(l.take k).sum+(l.drop k).sum:=by rw [<- List.sum_append,JQ]
 omega
theorem zrZ {m:MixD} {xs ys:List zaI} {lim:Nat} (h1:xs.map (·.1)=m.rs.map (·.2)) (h2:ys.map (·.1)=m.wr):zp7 lim (xs.map (·.1)) (ys.map (·.1))=zdz m lim:=by
 rw [h1,h2];rfl
section
variable {w:Wd} {B n most:Nat} {pc:List Value} {p:Prg} {V:List UInt8}
theorem zso (hB:B<=w.heap.size) (hP:PrgX B w pc p) (hG:GlobE w) (hQ:CandQ p n V most) :
  Calls PG 46 #[.agg pc.toArray,i64 most] w fun e w'=>(∃ (xs:List zf8) (q:OA) (c:Nat),e = .returned (.tuple #[.slice q xs.length c,i64 0])/\xs.map (·.1)=zcs p V/\OwnS exE 37 w.heap.size w' q c xs/\∀ x∈xs,OwnS evE 158 w.heap.size w' x.2.1 x.2.2 x.1.ev)/\Bw w w':=by
 refine zU 74 [.agg pc.toArray,i64 most] (.c .p (.s .p (.s .p (.s .p (.c .p (.s .p (.s .p (.c .p (.c .p (.c .p .p)))))))))) Tryz.func46 ?_;obtain⟨L,hL⟩:=nm (w.heap.size);have hpc:=hP.v.size;have hm20:=hQ.m20;refine⟨Unit,fun _=>⟨[(1,i64 most),(2,At0 L)],[]⟩,fun _ X=>X.heap[L]?=some (.cells pc.toArray 103 (0,0))/\L<X.heap.size/\Bw w X,⟨(),⟨.cons rfl (.cons (by rw [hL];rfl) .nil),rfl⟩,by rw [hL];exact zt w _,by rw [hL];exact hlt (zt w _),(zba w _)⟩,?_⟩;rintro _ X ⟨f0,sX,hbX⟩;refine brN (Ul (by omega)) (brN (Ul (by omega)) ⟨pc,hpc,za f0,hlt f0,cmo (zmU (UX hB hbX.size) (hP.v.below (hbX.mono hB)) (hG.c.below hbX)) ?_⟩);rintro e Y ⟨m,rfl,hm,hbY⟩;have hm0:m=0:=hm.2 hQ.ok;subst hm0;refine brF ?_;have hwY:=zst hbX hbY;have f0:=zb hbY f0;refine⟨pc,hpc,za f0,hlt f0,cmo (zqr (UX hB hwY.size) (hP.below (hwY.mono hB)) (hG.below hwY) hQ.ok (fun l hl=>(hQ.th l hl).ex) (fun l hl=>(hQ.th l hl).l12) hQ.i1 (by have:=hQ.i6;omega) hQ.is hQ.vals) ?_⟩;rintro e Z ⟨⟨qv,cv,rfl,oV⟩,hbZ⟩;refine brF ?_;have hwZ:=zst hwY hbZ;have f0:=zb hbZ f0;clear hbX hbY hwY;obtain⟨V0,hV0⟩:=nm (V);refine⟨List MixX×OA×Nat,fun s=>⟨[(1,i64 most),(8,.slice s.2.1 s.1.length s.2.2),(9,.bool true)],[]⟩,fun s U=>s.1.map (·.m)=jY p V/\OwnS zi1 172 w.heap.size U s.2.1 s.2.2 s.1/\(∀ x∈s.1,NInM w.heap.size (fun k=>w.heap.size<=k) U x)/\Bw w U,?_,?_⟩
 ·refine cmo (zri f0 (UX hB hwZ.size) (hP.below (hwZ.mono hB)) hQ.il hQ.i6 (hG.below hwZ) oV.row hQ.v1 hQ.v12 hQ.vs hQ.d12 hQ.t4 hQ.th hQ.all hQ.pb hQ.some) ?_;rintro e U ⟨⟨ms,q,c,rfl,hms,oM,nM⟩,hbU⟩;exact⟨(ms,q,c),(cvE rfl rfl),hms,oM.lower hwZ.size,fun x hx=>(nM x hx).lower hwZ.size,(zst hwZ hbU)⟩
 clear oV hbZ hwZ f0;rintro⟨ms,q,c⟩ X ⟨hms,oM,nM,hbX⟩;dsimp only at hms oM nM ⊢;refine brF ?_;have hml:ms.length<=5000:=by have:=hQ.ml;rw [<- hms,QS] at this;exact this
 have hmb:∀ x∈ms,MixB x.m:=fun x hx=>hQ.mb x.m (by rw [<- hms];exact US.2 ⟨x,hx,rfl⟩);have hsum:(ms.map fun x=>zdz x.m 20001).sum<=most:=by
  have:=hQ.cnt;rw [<- hms,UP] at this;exact this
 have htake:∀ k,((ms.take k).map fun x=>zdz x.m 20001).sum<=most:=fun k=>by
  have:=zoF (l:=ms.map fun x=>zdz x.m 20001) k;rw [<- List.map_take] at this;omega
 obtain⟨tot,htot⟩:=nm ((ms.map fun x=>zdz x.m 20001).sum);have cnt:∀ {Z:Wd} {k lim:Nat} (hk:k<ms.length),OwnS zi1 172 w.heap.size Z q c ms->(∀ x∈ms,NInM w.heap.size (fun k=>w.heap.size<=k) Z x)->1<=lim->lim<=100000->∃ b o,q=some ⟨b,o,none⟩/\Calls PG 88 #[.pointer (some ⟨b,o+k*336,none⟩),i64 lim] Z fun e w'=>e = .returned (i64 (zdz ms[k].m lim:Nat))/\Z=w':=fun {Z k lim} hk oM nM h1 h2=>by
  obtain⟨b,o,hq,hb,hat⟩:=oM.row.at hk;have hx:=nM ms[k] (gM hk);have hb1:=hmb ms[k] (gM hk);have hxl:ms[k].xs.length=ms[k].m.rs.length:=by have:=Gw List.length hx.e2;simpa using this
  have hyl:ms[k].ys.length=ms[k].m.wr.length:=by have:=Gw List.length hx.e3;simpa using this
  refine⟨b,o,hq,?_⟩;have:=zrR (lim:=lim) (r := .slice ms[k].p1 ms[k].m.rs.length ms[k].c1) (hat k hk) hx.r2.own.row hx.r3.own.row (fun y hy=>?_) (fun y hy=>?_) (by have:=hb1.rl;omega) (by have:=hb1.wl;omega) h1 h2
  ·rw [zrZ hx.e2 hx.e3] at this;exact this
  ·have h3:y.1∈ms[k].m.rs.map (·.2):=by rw [<- hx.e2];exact US.2 ⟨y,hy,rfl⟩
   obtain⟨r,hr,he⟩:=US.1 h3;rw [<- he];exact (hb1.rs r hr).2.1
  ·have h3:y.1∈ms[k].m.wr:=by rw [<- hx.e3];exact US.2 ⟨y,hy,rfl⟩
   have:=(hb1.wr _ h3).1;omega
 refine⟨Unit,fun _=>⟨[(8,.slice q ms.length c),(10,i64 tot)],[]⟩,fun _ Z=>X=Z,?_,?_⟩
 ·refine⟨Nat,fun k=>⟨[(1,i64 most),(8,.slice q ms.length c),(10,i64 (((ms.take k).map fun x=>zdz x.m 20001).sum:Nat)),(40,i64 ms.length),(41,i64 (k:Nat))],[]⟩,
   fun k Z=>k<=ms.length/\X=Z,fun k=>ms.length-k,0,(cvE rfl rfl),⟨Gj _,rfl⟩,?_⟩
  rintro k _ ⟨hk,rfl⟩;dsimp only;refine biE (fun hc=>?_) fun hc=>?_
  ·have hc:(k:Int)<(ms.length:Int):=dT hc;have hkl:k<ms.length:=by omega
   obtain⟨b,o,hq,hcall⟩:=cnt (lim:=20001) hkl oM nM (by decide) (by decide);have htk:((ms.take (k+1)).map fun x=>zdz x.m 20001).sum=((ms.take k).map fun x=>zdz x.m 20001).sum+zdz ms[k].m 20001:=by
    rw [tsg hkl,QV,List.sum_append];show _+(zdz ms[k].m 20001+0)=_;rw [UU]
   have h1:=htake (k+1);subst hq;refine⟨k,rfl,hkl,cmo hcall ?_⟩;rintro e _ ⟨rfl,rfl⟩;refine⟨((((ms.take (k+1)).map fun x=>zdz x.m 20001).sum:Nat):Int),?_,?_⟩
   ·rw [htk,Int.natCast_add];exact zi (by omega)
   exact brN (Ul (by omega)) (nxI (by omega) ⟨k+1,(cvE rfl rfl),⟨hkl,rfl⟩,zdc (by omega)⟩)
  ·have hc:¬ (k:Int)<(ms.length:Int):=dF hc;obtain rfl:k=ms.length:=by omega
   rw [Qy,<- htot];exact⟨(),(cvE rfl rfl),rfl⟩
 rintro _ _ rfl;have hXs:=hbX.size;refine⟨OA×Nat,fun s=>⟨[(8,.slice q ms.length c),(12,.slice s.1 0 s.2)],[]⟩,fun s Z=>OwnS exE 37 X.heap.size Z s.1 s.2 []/\Bw X Z,?_,?_⟩
 ·exact zdq (E:=exE) Tryz.underlying89 k37 rfl (by show _=333;exact zbG) rfl tot (by show 2416*tot<=_;omega) (by unfold maxLen;omega) fun Z oZ hbZ sZ=>⟨(some ⟨X.heap.size,0,none⟩,tot),(cvE rfl rfl),oZ,hbZ⟩
 rintro⟨p0,c0⟩ Y ⟨oY,hbY⟩;dsimp only at oY ⊢;refine⟨List zf8×OA×Nat,fun s=>⟨[(12,.slice s.2.1 s.1.length s.2.2)],[]⟩,fun s Z=>s.1.map (·.1)=zcs p V/\OwnS exE 37 X.heap.size Z s.2.1 s.2.2 s.1/\(∀ x∈s.1,OwnS evE 158 X.heap.size Z x.2.1 x.2.2 x.1.ev)/\Bw X Z,?_,?_⟩
 ·refine⟨Nat×List zf8×OA×Nat,fun s=>⟨[(8,.slice q ms.length c),(12,.slice s.2.2.1 s.2.1.length s.2.2.2),(57,i64 ms.length),(58,i64 (s.1:Nat))],[]⟩,
   fun s Z=>s.1<=ms.length/\s.2.1.map (·.1)=(ms.take s.1).flatMap (fun x=>zaj x.m)/\OwnS exE 37 X.heap.size Z s.2.2.1 s.2.2.2 s.2.1/\(∀ x∈s.2.1,OwnS evE 158 X.heap.size Z x.2.1 x.2.2 x.1.ev)/\Bw X Z,fun s=>ms.length-s.1,(0,[],p0,c0),
   (cvE rfl rfl),⟨Gj _,rfl,oY,fun x hx=>(by cases hx),hbY⟩,?_⟩
  clear oY hbY;rintro⟨k,outs,po,co⟩ Z ⟨hk,hou,oZ,nZ,hbZ⟩;dsimp only at hk hou oZ nZ ⊢;have hZs:=hbZ.size;have oMZ:OwnS zi1 172 w.heap.size Z q c ms:=oM.same fun a ha=>hbZ.block _ (zy oM ha).2.1;have nMZ:∀ x∈ms,NInM w.heap.size (fun k=>w.heap.size<=k) Z x:=fun x hx=>(nM x hx).same fun {α E T c q l} _ _ _ hr=>⟨hr.own.same fun a ha=>hbZ.block _ (zy hr.own ha).2.1,hr.inF⟩;refine biE (fun hc=>?_) fun hc=>?_
  ·have hc:(k:Int)<(ms.length:Int):=dT hc;have hkl:k<ms.length:=by omega
   obtain⟨b,o,hq,hcall⟩:=cnt (lim:=1) hkl oMZ nMZ (by decide) (by decide);obtain⟨x,hx⟩:∃ x,ms[k]=x:=⟨_,rfl⟩;have hxm:x∈ms:=by rw [<- hx];exact gM hkl
   have htk:(ms.take (k+1)).flatMap (fun x=>zaj x.m)=(ms.take k).flatMap (fun x=>zaj x.m)++zaj x.m:=by
    rw [tsg hkl,Kg,hx,KU,Qr,QO]
   rw [hx] at hcall;have hat:zq Z ⟨b,o+k*336,none⟩ (znJ x):=by
    obtain⟨b',o',hq',_,hat⟩:=oMZ.row.at hkl;rw [hq] at hq';have:=hat k hkl;simp only [Qb,Uz,Gu] at hq';rw [<- hx,hq'.1,hq'.2];exact this
   have hbX2:b<X.heap.size:=(zy oM hq).2.1;subst hq;refine⟨k,rfl,hkl,cmo hcall ?_⟩;rintro e _ ⟨rfl,rfl⟩;refine biE (fun h=>?_) fun h=>?_
   ·have h:zdz x.m 1=0:=UF (dT h);have hc0:zaj x.m=[]:=GC h;rw [hc0,QO] at htk;exact nxI (by omega) ⟨(k+1,outs,po,co),(cvE rfl rfl),⟨hkl,by rw [hou,htk],oZ,nZ,hbZ⟩,zdc (by omega)⟩
   have h:zdz x.m 1≠0:=fun e=>(dF h) (by rw [e];rfl);have hc1:zaj x.m=zfN x.m:=GB h;rw [hc1] at htk;refine⟨k,rfl,hkl,cmo zr3 ?_⟩;rintro e U ⟨rfl,fU,sU,hbU⟩;have hxM:=nMZ x hxm;have hxB:=hmb x hxm;obtain⟨Rd,hRd⟩:∃ Rd:Nat->Prop,Rd=fun k=>k<X.heap.size\/k=Z.heap.size:=⟨_,rfl⟩;have ltX:∀ {α:Type} {E:Enc α} {T cc:Nat} {r:OA} {ll:List α},RowIn E T w.heap.size (fun k=>w.heap.size<=k) X r cc ll->∀ a,r=some a->Rd a.block:=fun {α E T cc r ll} h a ha=>by rw [hRd];exact .inl (zy h.own ha).2.1
   have hX:=nM x hxm;have hM:MixM Rd U b (o+k*336) x.m x.q x.c x.p1 x.p2 x.p3 x.c1 x.c2 x.c3 x.xs x.ys:=by
    have r:∀ {α:Type} {E:Enc α} {T cc:Nat} {r:OA} {ll:List α},RowIn E T w.heap.size (fun k=>w.heap.size<=k) Z r cc ll->SlR E U r ll:=fun {α E T cc r ll} h=>(h.own.below hbU).row;refine⟨zz hbU hat,r hxM.ev,fun e=>?_,r hxM.r1,hxM.e2,r hxM.r2,fun y hy=>r (hxM.n2 y hy),hxM.e3,r hxM.r3,fun y hy=>r (hxM.n3 y hy),by rw [hRd];exact .inl hbX2,ltX hX.ev,ltX hX.r1,ltX hX.r2,ltX hX.r3,fun y hy=>ltX (hX.n2 y hy),fun y hy=>ltX (hX.n3 y hy)⟩;rcases hxM.ev.own.inv with ⟨_,h,_⟩ | ⟨g,cur,h,_⟩
    ·exact h
    ·rw [e] at h;cases h
   have hRl:∀ k,Rd k->k<U.heap.size:=fun k hk=>by
    rw [hRd] at hk;omega
   have hTU:Tz64M U:=hG.t64.below (hbX.trans ((hbZ.trans (hbU.mono hZs)).mono hXs));have htz:=zaf hG.t64;have hI:=zr4 hM fU (by rw [hRd];exact .inr rfl) hRl hTU (by rw [hRd];left;omega) hxB hxB.ev;have hln:outs.length+(zfN x.m).length<=30000:=by
    have h2:=hQ.len;have h3:(zcs p V)=ms.flatMap (fun x=>zaj x.m):=by
     show (jY p V).flatMap zaj=_;rw [<- hms,Qq]
    rw [h3] at h2;have h4:ms.flatMap (fun x=>zaj x.m)=(ms.take (k+1)).flatMap (fun x=>zaj x.m)++(ms.drop (k+1)).flatMap (fun x=>zaj x.m):=(by rw [<- Kg,JQ]);rw [h4,htk,<- hou,lap,lap,QS] at h2;omega
   refine cmo (zkZ (oZ.below hbU) (fun y hy=>(nZ y hy).below hbU) (by omega) hI (Gh _) (fun k hk=>⟨hRl k hk,rfl⟩) (fun k hk=>by rw [hRd] at hk;exact hk) fU (by omega) hln) ?_;rintro e T ⟨⟨new,pn,cn,rfl,zt,oT,nT⟩,hbT⟩;exact nxI (by omega) ⟨(k+1,outs++new,pn,cn),(cvE rfl rfl),⟨hkl,by rw [QV,hou,zt,htk],oT,nT,(hbZ.trans (hbU.mono hZs)).trans hbT⟩,zdc (by omega)⟩
  ·have hc:¬ (k:Int)<(ms.length:Int):=dF hc;obtain rfl:k=ms.length:=by omega
   rw [Qy] at hou;refine⟨(outs,po,co),(cvE rfl rfl),?_,oZ,nZ,hbZ⟩;rw [hou];show ms.flatMap _=(jY p V).flatMap zaj;rw [<- hms,Qq]
 rintro⟨outs,po,co⟩ Z ⟨hou,oZ,nZ,hbZ⟩;exact⟨⟨outs,po,co,rfl,hou,oZ.lower hXs,fun x hx=>(nZ x hx).lower hXs⟩,hbX.trans (hbZ.mono hXs)⟩
end
def zpX (x:InsD):Bool:=(decide (x.op=1)&&decide (x.dst.toNat<8))||((decide (x.op=2)&&(!x.ar||decide (x.an.toNat<8)))||decide (x.op=7))
theorem zrH {x:InsD} (h:zpX x=true):zdV x:=by
 unfold zpX at h;simp only [QK,bAT,dE,KL] at h;rcases h with ⟨h1,h2⟩ | ⟨h1,h2⟩ | h1
 ·exact .inl ⟨h1,h2⟩
 ·refine .inr (.inl ⟨h1,fun h=>?_⟩);rcases h2 with h2 | h2
  ·rw [h] at h2;cases h2
  ·exact h2
 ·exact .inr (.inr h1)
def zpa (locs:Nat) (P:PathD):Bool :=
 decide (P.ev.length<=24)&&((P.ev.all fun e => !(decide (e.k=1)||decide (e.k=2))||decide (e.l.toNat<locs))&&((P.data.all fun p=>decide (p.1<P.ev.length)&&decide (p.2<P.ev.length))&&((P.ctrl.all fun p=>decide (p.1<P.ev.length)&&decide (p.2<P.ev.length))&&((P.rmw.all fun p=>decide (p.1<P.ev.length)&&decide (p.2<P.ev.length)) &&
  (decide (P.data.length<=100000)&&(decide (P.ctrl.length<=100000)&&decide (P.rmw.length<=100000)))))))
theorem zo9 {locs:Nat} {P:PathD} (h:zpa locs P=true):PathB locs P:=by
 unfold zpa at h;simp only [bAT,QK,dE,Ql,KL,Bool.or_eq_false_iff,decide_eq_false_iff_not] at h;obtain⟨h1,h2,h3,h4,h5,h6,h7,h8⟩:=h;refine⟨h1,fun e he hk=>?_,h3,h4,h5,h6,h7,h8⟩;rcases h2 e he with h | h
 ·rcases hk with hk | hk
  ·exact (h.1 hk).elim
  ·exact (h.2 hk).elim
 ·exact h
def zlT (p:Prg) (n:Nat) (V:List UInt8) (most:Nat):Bool :=
 zgR p&&(decide (p.locs.length=p.init.length)&&(decide (1<=p.init.length)&&(decide (p.init.length<=6)&&(zd7 p.init&&(decide (zhM p.threads n (ded p.init)=some V)&&(decide (1<=V.length)&&(decide (V.length<=12)&&(zd7 V&&(decide ((ded V).length<=12)&&(decide (p.threads.length<=4) &&
  ((p.threads.all fun l=>decide (l.length<=12)&&(l.all zpX&&(jK l 6&&decide ((zan l (ded V)).length<=4096)))) &&
   (((List.range (p.threads.length+1)).all fun k=>decide (zca ((p.threads.take k).map fun l=>(zM V l).length)<=4096)) &&
    ((p.threads.all fun l=>(zM V l).all (zpa p.init.length)) &&
     (((zbY ((p.threads.map (zM V)).map List.length)).all fun ds=>(zkc p.init (zcc (p.threads.map (zM V)) ds)).isSome) &&
      (decide ((jY p V).length<=5000)&&((jY p V).all zpn&&(decide (most<=20000)&&(decide (((jY p V).map fun m=>zdz m 20001).sum<=most)&&decide ((zcs p V).length<=30000)))))))))))))))))))
theorem zqa {p:Prg} {n:Nat} {V:List UInt8} {most:Nat} (h:zlT p n V most=true):CandQ p n V most:=by
 unfold zlT at h;simp only [bAT,dE,Ql,Ut] at h;obtain⟨h1,h2,h3,h4,h5,h6,h7,h8,h9,h10,h11,h12,h13,h14,h15,h16,h17,h18,h19,h20⟩:=h;exact⟨h1,h2,h3,h4,h5,h6,h7,h8,h9,h10,h11,fun l hl=>⟨(h12 l hl).1,fun x hx=>zrH ((h12 l hl).2.1 x hx),(h12 l hl).2.2.1,(h12 l hl).2.2.2⟩,fun k hk=>h13 k (by omega),fun l hl P hP=>zo9 (h14 l hl P hP),h15,h16,fun m hm=>zrj (h17 m hm),h18,h19,h20⟩
def stI (l v m:UInt8):InsD:=⟨2,0,l,false,v,false,0,0,m,0⟩
def ztt (x:ExD):Bool:=decide (x.ev.length<=20)&&(zgv x.po&&(zgv x.rf&&(zgv x.co&&(zgv x.dt&&(zgv x.ct&&zgv x.rm)))))
abbrev lnA (s:Bs):List LineD:=(qB s).1.getD []
def zey:Bs:=[101,109,112,116,121,32,91,82,93,59,112,111,32,97,115,32,120]
def zqP:Bs:=[101,109,112,116,121,32,99,111,32,97,115,32,120]
def zuj:Bs:=[108,101,116,32,97,32,61,32,98]
def zui:Bs:=[108,101,116,32,112,111,32,61,32,114,102]
def zuh:Bs:=[101,109,112,116,121,32,112,111]
def zhI:Bs:=[101,109,112,116,121,32,91,82,93,32,59,32,112,111,32,97,115,32,120,10]
def zjU:Bs:=[97,99,121,99,108,105,99,32,40,112,111,32,124,32,114,102,41,43,32,97,115,32,120,10]
def tmA:Trm := .mk 2 [] [.mk 2 [] [.mk 2 [] [nmT [112,111],nmT [114,102]],nmT [99,111]],nmT [102,114]]
def tmB:Trm := .mk 5 [] [.mk 9 [82] [],nmT [112,111]]
theorem pa2:((ju (lnA zey)).map (·.1)).getD []=zhI:=by kernel_rfl
theorem zvx:(ju (lnA zey)).isSome=true:=by kernel_rfl
theorem pa3:((ju (lnA zm5)).map (·.1)).getD []=zjU:=by kernel_rfl
theorem zvw:(ju (lnA zm5)).isSome=true:=by kernel_rfl
theorem sm1:ziI (lnA zfj) [⟨1,[111,114,100,101,114],tmA⟩]=true:=by kernel_rfl
theorem sm2:ziI (lnA zey) [⟨3,[120],tmB⟩]=true:=by kernel_rfl
theorem ln4:lnA zqP=[⟨3,[120],nmT [99,111]⟩]:=by kernel_rfl
def zlE (s:Bs) (er:Int) (at_:Nat):Bool:=decide ((qB s).2.2=er)&&(decide ((qB s).2.1=at_)&&decide ((qB s).1.getD []=[]))
theorem fa5:zlE zuj 112 8=true:=by kernel_rfl
theorem fa6:zlE zui 111 4=true:=by kernel_rfl
theorem fa7:zlE zuh 110 8=true:=by kernel_rfl
def zhs:Prg:=⟨[116],[[120]],[0],[[stI 0 1 0]],1,.mk 0 0 0 0 []⟩
theorem ztS:zlT zhs 5 [0,1] 1=true:=by kernel_rfl
theorem zp9:(zcs zhs [0,1]).length=1:=by kernel_rfl
abbrev zk1:ExD:=(zcs zhs [0,1]).getD 0 (ex0 0)
theorem zsK:ztt zk1=true:=by kernel_rfl
theorem zsL:ze4 [⟨3,[120],nmT [99,111]⟩] zk1=(false,[120],0):=by kernel_rfl
section
variable {w X Y:Wd}
def MoB (X:Wd) (d:Nat) (s:Bs):Prop:=∃ p cap,X.heap[d]?=some (.cells #[.slice p (lnA s).length cap] 47 (0,0))/\LinsM jS X p (lnA s)/\(lnA s).length<=40
theorem MoB.below {d:Nat} {s:Bs} (h:MoB X d s) (hb:Bw X Y):MoB Y d s:=by
 obtain⟨p,cap,h1,h2,h3⟩:=h;exact⟨p,cap,zb hb h1,h2.below hb,h3⟩
def TeB (X:Wd) (d:Nat) (t:Trm):Prop:=∃ p cap,X.heap[d]?=some (.cells (ze t p cap).toArray 24 (0,0))/\KidsT jS X p t.kids
theorem TeB.below {d:Nat} {t:Trm} (h:TeB X d t) (hb:Bw X Y):TeB Y d t:=by
 obtain⟨p,cap,h1,h2⟩:=h;exact⟨p,cap,zb hb h1,h2.kept hb⟩
structure FndC (X:Wd) (F:List ExD) (xs:List zf8) (q:OA):Prop where
 e:xs.map (·.1)=F
 row:SlR exE X q xs
 ev:∀ x∈xs,SlR evE X x.2.1 x.1.ev
theorem FndC.below {F:List ExD} {xs:List zf8} {q:OA} (h:FndC X F xs q) (hb:Bw X Y):FndC Y F xs q:=⟨h.e,h.row.below hb,fun x hx=>(h.ev x hx).below hb⟩
theorem zdG {r:RelD} (h:zgv r=true):zE r.to:=by
 unfold zgv at h;rw [Ql] at h;exact fun i hi=>dT (h i (Ut.2 hi))
theorem zrD {x:ExD} {q:OA} (h:ztt x=true) (he:SlR evE X q x.ev):ExV X x q:=by
 unfold ztt at h;simp only [bAT,dE] at h;obtain⟨h1,h2,h3,h4,h5,h6,h7⟩:=h;exact⟨he,h1,zdG h2,zdG h3,zdG h4,zdG h5,zdG h6,zdG h7⟩
theorem FndC.one {xs:List zf8} {q:OA} (h:FndC X (zcs zhs [0,1]) xs q):xs.length=1/\∃ (b o:Nat) (p:OA) (c:Nat),q=some ⟨b,o,none⟩/\b<X.heap.size/\zq X ⟨b,o+0*333,none⟩ (exC zk1 p c)/\ExV X zk1 p:=by
 have hl:xs.length=1:=by
  have:=Gw List.length h.e;rw [QS,zp9] at this;exact this
 have hix:0<xs.length:=by omega
 obtain⟨b,o,hq,hb,hat⟩:=h.row.at hix;obtain⟨y,hy⟩:∃ y,xs[0]=y:=⟨_,rfl⟩;have hym:y∈xs:=by rw [<- hy];exact gM hix
 have hF:y.1=zk1:=by
  show _=(zcs zhs [0,1]).getD 0 (ex0 0);rw [<- h.e,gDe,KW,gE hix,hy];rfl
 have hatk:=hat 0 hix;rw [hy] at hatk;have hev:=h.ev y hym;obtain⟨y1,p,c⟩:=y;dsimp only at hF hev;subst hF;exact⟨hl,b,o,p,c,hq,hb,hatk,zrD zsK hev⟩
theorem ztR {W:Wd} {bs bi bn bt:Nat} (g1:W.heap[bs]?=some (.cells #[zx [120]] 9 (0,0))) (g2:W.heap[bi]?=some (.cells #[u8 0] 5 (0,0)))
  (g3:W.heap[bn]?=some (.cells (qz.enc (stI 0 1 0)).toArray 96 (0,0))) (g4:W.heap[bt]?=some (.cells #[.slice (some ⟨bn,0,none⟩) 1 1] 97 (0,0))) :
  PrgX W.heap.size W (j8 zhs (some ⟨bs,0,none⟩) 1 (some ⟨bi,0,none⟩) 1 (some ⟨bt,0,none⟩) 1 none 0) zhs:=by
 have rI:RowB zO W.heap.size W (some ⟨bi,0,none⟩) [0] := .inr ⟨bi,0,rfl,hlt g2,za g2⟩;have hx:RowB qz W.heap.size W (some ⟨bn,0,none⟩) [stI 0 1 0] := .inr ⟨bn,0,rfl,hlt g3,by
  have:[stI 0 1 0].flatMap qz.enc=qz.enc (stI 0 1 0):=by rw [KU,Qr,QO]
  rw [this];exact za g3⟩
 have rr:RowB zsR W.heap.size W (some ⟨bt,0,none⟩) [([stI 0 1 0],some ⟨bn,0,none⟩,1)] := .inr ⟨bt,0,rfl,hlt g4,za g4⟩;have rT:ThrsW W.heap.size W (some ⟨bt,0,none⟩) [[stI 0 1 0]]:=by
  refine⟨[([stI 0 1 0],some ⟨bn,0,none⟩,1)],rfl,rr,fun x h=>?_⟩;obtain rfl:=KC.1 h;exact⟨hx,fun a ha=>by cases ha;exact hlt g3⟩
 refine⟨⟨⟨by show 1<=_;decide,by show 1<=_;decide,fun s hs=>?_,by show 1<=_;decide,by show 1<=_;decide,fun l h=>?_⟩,some ⟨bs,0,none⟩,1,some ⟨bi,0,none⟩,1,some ⟨bt,0,none⟩,1,none,0,rfl,?_,rI,?_,?_,?_⟩,⟨_,_,rfl,rT⟩,⟨_,_,rfl,rI⟩⟩
 ·have hs:s=[120]:=by simpa [zhs] using hs
  rw [hs];decide
 ·have hs:l=[stI 0 1 0]:=by simpa [zhs] using h
  rw [hs];decide
 ·exact .inr ⟨bs,0,rfl,hlt g1,za g1⟩
 ·obtain⟨xs,hxs,hr,hx⟩:=rT;exact⟨xs,hxs,hr,fun x h=>(hx x h).1⟩
 ·exact .mk none [] (by decide) 0 0 (.inl rfl) (fun _=>none) (fun _=>0) (fun i hi=>by simp at hi) (fun i hi=>by simp at hi)
 ·show 1<=1;decide
theorem LinsM.one {k b cap:Nat} {nq:Bs} {t:Trm} {q:OA} (f:X.heap[b]?=some (.cells (zA k nq t q cap).toArray 49 (0,0))) (hk:k<=255) (hn:nq.length<=140737488351232) (ht:t.name.length<=140737488351232) (kk:KidsT jS X q t.kids):LinsM jS X (some ⟨b,0,none⟩) [⟨k,nq,t⟩]:=by
 refine⟨[(⟨k,nq,t⟩,q,cap)],rfl,SlR.of_cells (hlt f) ?_,fun x hx=>?_,fun _ _ _=>trivial⟩
 ·have:[((⟨k,nq,t⟩,q,cap):zdf)].flatMap zki.enc=zA k nq t q cap:=by rw [KU,Qr,QO];rfl
  rw [this];exact za f
 ·obtain rfl:=KC.1 hx;exact⟨hk,hn,ht,kk⟩
structure GlobA (w:Wd):Prop where
 k:GlobK w
 e:GlobE w
theorem GlobA.below (h:GlobA w) (hb:Bw w X):GlobA X:=⟨h.k.below hb,h.e.below hb⟩
theorem zeh {s:Bs} (h:Nat.ble s.length 140737488351232=true):s.length<=140737488351232:=JS h
theorem zqk (hG:GlobA w):CB 11 #[] w (.bool true):=by
 refine zU 110 [] (.s .p (.c .p (.c .p (.c .p (.c .p (.c .p (.c .p (.c .p (.c .p (.c .p .p)))))))))) Tryz.func11 ?_;refine⟨Nat,fun d=>⟨[(1,At0 d)],[]⟩,fun d X=>MoB X d zfj/\Bw w X,?_,?_⟩
 ·skip
  refine cmo (zgg (hG.k) zfj (zeh rfl)) ?_;rintro e Y ⟨p,cap,rfl,hM,h40,bY⟩;refine zl (X:=Y) (v := .agg #[.slice p (lnA zfj).length cap]) k47 rfl rfl rfl fun Z hbZ fZ sZ=>?_;have mZ:MoB Z Y.heap.size zfj:=⟨p,cap,fZ,(hM.below hbZ).weak fun b _=>trivial,h40⟩;have bZ:=zst bY hbZ;exact⟨Y.heap.size,(cvE rfl rfl),mZ,bZ⟩
 rintro d1 X ⟨m1,b0⟩;refine⟨Nat,fun d=>⟨[(1,At0 d1),(2,At0 d)],[]⟩,fun d X=>MoB X d1 zfj/\MoB X d zey/\Bw w X,?_,?_⟩
 ·skip
  refine cmo (zgg (hG.k.below b0) zey (zeh rfl)) ?_;rintro e Y ⟨p,cap,rfl,hM,h40,bY⟩;refine zl (X:=Y) (v := .agg #[.slice p (lnA zey).length cap]) k47 rfl rfl rfl fun Z hbZ fZ sZ=>?_;have mZ:MoB Z Y.heap.size zey:=⟨p,cap,fZ,(hM.below hbZ).weak fun b _=>trivial,h40⟩;have bZ:=zst bY hbZ;exact⟨Y.heap.size,(cvE rfl rfl),m1.below bZ,mZ,(zst b0 bZ)⟩
 clear m1 b0 X;rintro d2 X ⟨m1,m2,b0⟩;refine⟨Unit,fun _=>⟨[(1,At0 d1),(2,At0 d2),(3,zx zhI),(4,i64 0)],[]⟩,fun _ X=>MoB X d1 zfj/\MoB X d2 zey/\Bw w X,?_,?_⟩
 ·obtain⟨p,cap,f2,hM,h40⟩:=m2;refine⟨_,rfl,za f2,hlt f2,cmo (zmW (cap:=cap) (hG.k.below b0) hM (by omega)) ?_⟩;rintro e Y ⟨rfl,bY⟩;exact⟨(),⟨.cons rfl (.cons rfl (.cons (Gw (fun s=>some (zx s)) pa2) (.cons (Gw (fun n=>some (i64 n)) (GC zvx)) .nil))),rfl⟩,m1.below bY,⟨p,cap,zb bY f2,hM.below bY,h40⟩,(zst b0 bY)⟩
 clear m1 m2 b0 X;rintro _ X ⟨m1,m2,b0⟩;refine⟨Nat,fun d=>⟨[(1,At0 d1),(2,At0 d2),(3,zx zhI),(4,i64 0),(5,At0 d)],[]⟩,fun d X=>MoB X d1 zfj/\MoB X d2 zey/\MoB X d zm5/\Bw w X,?_,?_⟩
 ·skip
  refine cmo (zgg (hG.k.below b0) zm5 (zeh rfl)) ?_;rintro e Y ⟨p,cap,rfl,hM,h40,bY⟩;refine zl (X:=Y) (v := .agg #[.slice p (lnA zm5).length cap]) k47 rfl rfl rfl fun Z hbZ fZ sZ=>?_;have mZ:MoB Z Y.heap.size zm5:=⟨p,cap,fZ,(hM.below hbZ).weak fun b _=>trivial,h40⟩;have bZ:=zst bY hbZ;exact⟨Y.heap.size,(cvE rfl rfl),m1.below bZ,m2.below bZ,mZ,(zst b0 bZ)⟩
 clear m1 m2 b0 X;rintro d5 X ⟨m1,m2,m5,b0⟩;refine⟨Unit,fun _=>⟨[(1,At0 d1),(2,At0 d2),(3,zx zhI),(4,i64 0),(6,zx zjU),(7,i64 0)],[]⟩,fun _ X=>MoB X d1 zfj/\MoB X d2 zey/\Bw w X,?_,?_⟩
 ·obtain⟨p,cap,f2,hM,h40⟩:=m5;refine⟨_,rfl,za f2,hlt f2,cmo (zmW (cap:=cap) (hG.k.below b0) hM (by omega)) ?_⟩;rintro e Y ⟨rfl,bY⟩;exact⟨(),⟨.cons rfl (.cons rfl (.cons rfl (.cons rfl (.cons (Gw (fun s=>some (zx s)) pa3) (.cons (Gw (fun n=>some (i64 n)) (GC zvw)) .nil))))),rfl⟩,m1.below bY,m2.below bY,(zst b0 bY)⟩
 clear m1 m2 m5 b0 X;rintro _ X ⟨m1,m2,b0⟩;refine⟨Nat,fun d=>⟨[(1,At0 d1),(2,At0 d2),(3,zx zhI),(4,i64 0),(6,zx zjU),(7,i64 0),(8,At0 d)],[]⟩,fun d X=>MoB X d1 zfj/\MoB X d2 zey/\TeB X d tmA/\Bw w X,?_,?_⟩
 ·refine cmo (zaB [112,111]) ?_;rintro e V1 ⟨rfl,v1⟩;refine cmo (zaB [114,102]) ?_;rintro e V2 ⟨rfl,v2⟩;refine cmo (zb2 (k:=2) (a:=nmT [112,111]) (b:=nmT [114,102]) .nil .nil (by decide) (by decide)) ?_;rintro e V3 ⟨r3,rfl,k3,v3⟩;refine cmo (zaB [99,111]) ?_;rintro e V4 ⟨rfl,v4⟩;refine cmo (zb2 (k:=2) (a := .mk 2 [] [nmT [112,111],nmT [114,102]]) (b:=nmT [99,111]) (k3.kept v4) .nil (by decide) (by decide)) ?_;rintro e V5 ⟨r5,rfl,k5,v5⟩;refine cmo (zaB [102,114]) ?_;rintro e V6 ⟨rfl,v6⟩;refine cmo (zb2 (k:=2) (a := .mk 2 [] [.mk 2 [] [nmT [112,111],nmT [114,102]],nmT [99,111]]) (b:=nmT [102,114]) (k5.kept v6) .nil (by decide) (by decide)) ?_;rintro e V7 ⟨r7,rfl,k7,v7⟩;refine zl (X:=V7) (v := .agg (ze tmA r7 2).toArray) k24 rfl rfl rfl fun Z hbZ fZ sZ=>?_;have c2:=zst v1 v2;have c3:=zst c2 v3;have c4:=zst c3 v4;have c5:=zst c4 v5;have c6:=zst c5 v6;have c7:=zst c6 v7;have bZ:=zst c7 hbZ;exact⟨V7.heap.size,(cvE rfl rfl),m1.below bZ,m2.below bZ,⟨r7,2,fZ,k7.kept hbZ⟩,(zst b0 bZ)⟩
 clear m1 m2 b0 X;rintro d8 X ⟨m1,m2,t8,b0⟩;refine⟨List zf8×OA×Nat,fun s=>⟨[(1,At0 d1),(2,At0 d2),(3,zx zhI),(4,i64 0),(6,zx zjU),(7,i64 0),(8,At0 d8),(9,.slice s.2.1 s.1.length s.2.2),(10,i64 0)],[]⟩,fun s X=>MoB X d1 zfj/\MoB X d2 zey/\TeB X d8 tmA/\FndC X (zcs zhs [0,1]) s.1 s.2.1/\Bw w X,?_,?_⟩
 ·refine⟨⟨by decide,by decide,rfl⟩,[zx [120]],rfl,?_⟩;obtain⟨V1,e1⟩:=nm (X.alloc (.cells [zx [120]].toArray 9));have v1:Bw X V1:=by rw [e1];exact zba _ _
  have f1:V1.heap[X.heap.size]?=some (.cells #[zx [120]] 9 (0,0)):=by rw [e1];exact zt _ _
  rw [<- e1];refine⟨⟨by decide,by decide,rfl⟩,[u8 0],rfl,?_⟩;obtain⟨V2,e2⟩:=nm (V1.alloc (.cells [u8 0].toArray 5));have v2:Bw V1 V2:=by rw [e2];exact zba _ _
  have f2:V2.heap[V1.heap.size]?=some (.cells #[u8 0] 5 (0,0)):=by rw [e2];exact zt _ _
  rw [<- e2];refine⟨_,rfl,qz.enc (stI 0 1 0),by kernel_rfl,?_⟩;refine⟨⟨by decide,by decide,rfl⟩,qz.enc (stI 0 1 0),by kernel_rfl,?_⟩;obtain⟨V3,e3⟩:=nm (V2.alloc (.cells (qz.enc (stI 0 1 0)).toArray 96));have v3:Bw V2 V3:=by rw [e3];exact zba _ _
  have f3:V3.heap[V2.heap.size]?=some (.cells (qz.enc (stI 0 1 0)).toArray 96 (0,0)):=by rw [e3];exact zt _ _
  rw [<- e3];refine⟨⟨by decide,by decide,rfl⟩,[.slice (some ⟨V2.heap.size,0,none⟩) 1 1],rfl,?_⟩;obtain⟨V4,e4⟩:=nm (V3.alloc (.cells [.slice (some ⟨V2.heap.size,0,none⟩) 1 1].toArray 97));have v4:Bw V3 V4:=by rw [e4];exact zba _ _
  have f4:V4.heap[V3.heap.size]?=some (.cells #[.slice (some ⟨V2.heap.size,0,none⟩) 1 1] 97 (0,0)):=by rw [e4];exact zt _ _
  rw [<- e4];refine⟨j8 zhs (some ⟨X.heap.size,0,none⟩) 1 (some ⟨V1.heap.size,0,none⟩) 1 (some ⟨V3.heap.size,0,none⟩) 1 none 0,rfl,?_⟩;have c2:=zst v1 v2;have c3:=zst c2 v3;have c4:=zst c3 v4;have hP:=ztR (W:=V4) (zb v4 (zb v3 (zb v2 f1))) (zb v4 (zb v3 f2)) (zb v4 f3) f4;refine cmo (zso (B:=V4.heap.size) (n:=5) (V:=[0,1]) (Gh _) hP ((hG.e.below b0).below c4) (zqa ztS)) ?_;rintro e Z ⟨⟨xs,q,c,rfl,h1,h2,h3⟩,bZ⟩;have c5:=zst c4 bZ;exact⟨(xs,q,c),(cvE rfl rfl),m1.below c5,m2.below c5,t8.below c5,⟨h1,h2.row,fun x hx=>(h3 x hx).row⟩,(zst b0 c5)⟩
 clear m1 m2 t8 b0 X;rintro⟨xs,q,c⟩ X ⟨m1,m2,t8,hF,b0⟩;dsimp only at hF ⊢;obtain⟨hl,bb,ob,p,cx,hq,hbb,hcx,hvx⟩:=hF.one;subst hq;refine⟨Unit,fun _=>⟨[(1,At0 d1),(2,At0 d2),(3,zx zhI),(4,i64 0),(6,zx zjU),(7,i64 0),(8,At0 d8),(9,.slice (some ⟨bb,ob,none⟩) 1 c)],[]⟩,fun _ Y=>X=Y,?_,?_⟩
 ·refine Gs (fun h=>GD (show false=true from h) (by decide)) (fun _=>biE (fun h=>?_) fun _=>?_)
  ·have h:(!decide ((xs.length:Int)=1))=true:=h;rw [hl] at h;cases h
  ·exact⟨(),⟨.cons rfl (.cons rfl (.cons rfl (.cons rfl (.cons rfl (.cons rfl (.cons rfl (.cons (by show some (Value.slice (some ⟨bb,ob,none⟩) xs.length c)=_;rw [hl]) .nil))))))),rfl⟩,rfl⟩
 rintro _ _ rfl;refine⟨Unit,fun _=>⟨[(1,At0 d1),(2,At0 d2),(3,zx zhI),(4,i64 0),(6,zx zjU),(7,i64 0),(8,At0 d8),(11,.bool false),(12,zx [120]),(13,i64 0)],[]⟩,fun _ Y=>MoB Y d1 zfj/\MoB Y d2 zey/\TeB Y d8 tmA/\Bw w Y,?_,?_⟩
 ·have bd:=(Gm X.heap.size X).drew;refine DrawE.ord [] [1,2,3,0,4,5,6,7,8,9,10,11] (by kernel_rfl) ⟨0,rfl,by decide,?_⟩;refine⟨exC zk1 p cx,zH _ _ _,hcx,hbb,cmo (zgg (hG.k.below ((zst b0 bd))) zqP (zeh rfl)) ?_⟩;rintro e Y ⟨p4,cap4,rfl,hM,h40,bY⟩;refine⟨bY,?_⟩;have b1:=zst bd bY;have b2:=zst b0 b1;have hh:ze4 (lnA zqP) zk1=(false,[120],0):=by rw [ln4];exact zsL
  have hone:∀ l∈lnA zqP,l=⟨3,[120],nmT [99,111]⟩:=fun l hl=>by rw [ln4] at hl;exact KC.1 hl
  refine cmo (zl4 (cap:=cap4) (q:=p) (c:=cx) (hG.k.below b2) (hM.weak fun b _=>trivial) (by omega) (hvx.below b1) ((hG.e.below b2).t64) (fun bb mb l hl _=>by rw [hone l hl];exact zos _ _) (fun l hl h=>by rw [hone l hl] at h;cases h)) ?_;rintro e Z ⟨rfl,bZ⟩;rw [hh];refine⟨bZ,?_⟩;have b3:=zst b1 bZ;exact⟨(),(cvE rfl rfl),m1.below b3,m2.below b3,t8.below b3,(zst b0 b3)⟩
 clear m1 m2 t8 b0 hF hbb hcx hvx X;rintro _ X ⟨⟨p1,k1,f1,hM1,h1⟩,⟨p2,k2,f2,hM2,h2⟩,⟨p8,k8,f8,hK8⟩,b0⟩;have bd:=(Gm X.heap.size X).drew;have bw:=zst b0 bd;refine DrawE.ord [] (List.range 50) (by kernel_rfl) ⟨0,rfl,0,rfl,Gs (fun _=>⟨_,rfl,za (hdr f1),hlt (hdr f1),_,rfl,za (hdr f8),hlt (hdr f8),zA 1 [111,114,100,101,114] tmA p8 k8,rfl,⟨by decide,by decide,rfl⟩,zA 1 [111,114,100,101,114] tmA p8 k8,rfl,?_⟩) (fun h=>GD (show true=false from h) (by decide))⟩;obtain⟨V1,e1⟩:=nm (X.drew.alloc (.cells (zA 1 [111,114,100,101,114] tmA p8 k8).toArray 49));have v1:Below X.drew.heap.size X.drew V1:=by rw [e1];exact zba _ _
 have g1:V1.heap[X.drew.heap.size]?=some (.cells (zA 1 [111,114,100,101,114] tmA p8 k8).toArray 49 (0,0)):=by rw [e1];exact zt _ _
 rw [<- e1];refine⟨v1,?_⟩;have c1:=zst bd v1;refine⟨_,rfl,cmo (zmT (a:=lnA zfj) (b:=[⟨1,[111,114,100,101,114],tmA⟩]) (c:=k1) (d:=1) (by omega) (by decide) (hM1.below c1) (LinsM.one g1 (by decide) (by decide) (by decide) (hK8.kept c1))) ?_⟩;rintro e V2 ⟨rfl,v2⟩;refine⟨v2,?_⟩;have c2:=zst c1 v2;refine Gs (fun _=>⟨_,rfl,za (zb c2 f2),hlt (zb c2 f2),ze (.mk 9 [82] []) none 0,rfl,cmo (zaB [112,111]) ?_⟩) (fun h=>GD ((sm1).symm.trans h) (by decide));rintro e V3 ⟨rfl,v3⟩;refine⟨v3,?_⟩;have c3:=zst c2 v3;refine cmo (zb2 (k:=5) (a := .mk 9 [82] []) (b:=nmT [112,111]) .nil .nil (by decide) (by decide)) ?_;rintro e V4 ⟨r4,rfl,k4,v4⟩;refine⟨v4,?_⟩;have c4:=zst c3 v4;refine⟨zA 3 [120] tmB r4 2,rfl,⟨by decide,by decide,rfl⟩,zA 3 [120] tmB r4 2,rfl,?_⟩;obtain⟨V5,e5⟩:=nm (V4.alloc (.cells (zA 3 [120] tmB r4 2).toArray 49));have v5:Bw V4 V5:=by rw [e5];exact zba _ _
 have g5:V5.heap[V4.heap.size]?=some (.cells (zA 3 [120] tmB r4 2).toArray 49 (0,0)):=by rw [e5];exact zt _ _
 rw [<- e5];refine⟨v5,?_⟩;have c5:=zst c4 v5;refine⟨_,rfl,cmo (zmT (a:=lnA zey) (b:=[⟨3,[120],tmB⟩]) (c:=k2) (d:=1) (by omega) (by decide) (hM2.below c5) (LinsM.one g5 (by decide) (by decide) (by decide) (k4.kept v5))) ?_⟩;rintro e V6 ⟨rfl,v6⟩;refine⟨v6,?_⟩;have c6:=zst c5 v6;refine Gs (fun _=>⟨_,fun w=>zF _ _ zhI zhI w,Gs (fun _=>⟨_,fun w=>zF _ _ zjU zjU w,Gs (fun _=>?_) (fun h=>GD (((Ux rfl)).symm.trans h) (by decide))⟩) (fun h=>GD (((Ux rfl)).symm.trans h) (by decide))⟩) (fun h=>GD ((sm2).symm.trans h) (by decide));have hK6:=hG.k.below ((zst b0 c6));refine cmo (zi7 hK6 zuj (zeh rfl) 112 8) ?_;rintro e V7 ⟨rfl,v7⟩;refine⟨v7,?_⟩;have c7:=zst c6 v7;refine Gs (fun _=>cmo (zi7 (hG.k.below ((zst b0 c7))) zui (zeh rfl) 111 4) ?_) (fun h=>GD ((fa5).symm.trans h) (by decide));rintro e V8 ⟨rfl,v8⟩;refine⟨v8,?_⟩;have c8:=zst c7 v8;refine Gs (fun _=>cmo (zi7 (hG.k.below ((zst b0 c8))) zuh (zeh rfl) 110 8) ?_) (fun h=>GD ((fa6).symm.trans h) (by decide));rintro e V9 ⟨rfl,v9⟩;refine⟨v9,?_⟩;have c9:=zst c8 v9;exact Gs (fun _=>Gs (fun _=>⟨_,fun w=>zF _ _ [120] [120] w,rb (Ux rfl),(zst b0 c9)⟩) (fun h=>GD (show true=false from h) (by decide))) (fun h=>GD ((fa7).symm.trans h) (by decide))
end
section
variable {a b:Trm} {qa qb q:OA} {ca cb c L:Nat} {x:ExD} {w X Y:Wd}
structure LtB (w:Wd) (L:Nat) (a b:Trm) (qa qb:OA) (ca cb:Nat) (x:ExD) (q:OA) (c:Nat) (X:Wd):Prop where
 A:X.heap[L]?=some (.cells (ze a qa ca).toArray 24 (0,0))
 B:X.heap[L+1]?=some (.cells (ze b qb cb).toArray 24 (0,0))
 E:ExH X (L+2) x q c
 ka:KidsT jS X qa a.kids
 kb:KidsT jS X qb b.kids
 bl:Bw w X
theorem LtB.below (h:LtB w L a b qa qb ca cb x q c X) (hb:Bw X Y):LtB w L a b qa qb ca cb x q c Y :=
 ⟨zb hb h.A,zb hb h.B,zb hb h.E,h.ka.kept hb,h.kb.kept hb,zst h.bl hb⟩
theorem LtB.start (ka:KidsT jS w qa a.kids) (kb:KidsT jS w qb b.kids):LtB w w.heap.size a b qa qb ca cb x q c (((w.alloc (.cells (ze a qa ca).toArray 24)).alloc (.cells (ze b qb cb).toArray 24)).alloc (.cells (exC x q c).toArray 37))/\(w.alloc (.cells (ze a qa ca).toArray 24)).heap.size=w.heap.size+1/\((w.alloc (.cells (ze a qa ca).toArray 24)).alloc (.cells (ze b qb cb).toArray 24)).heap.size=w.heap.size+2:=by
 obtain⟨W1,e1⟩:=nm (w.alloc (.cells (ze a qa ca).toArray 24));have n1:W1.heap.size=w.heap.size+1:=by rw [e1];exact wz _ _
 have f1:W1.heap[w.heap.size]?=some (.cells (ze a qa ca).toArray 24 (0,0)):=by rw [e1];exact zt w _
 have b1:Bw w W1:=by rw [e1];exact zba _ _
 obtain⟨W2,e2⟩:=nm (W1.alloc (.cells (ze b qb cb).toArray 24));have n2:W2.heap.size=w.heap.size+2:=by rw [e2,wz,n1]
 have f2:W2.heap[w.heap.size+1]?=some (.cells (ze b qb cb).toArray 24 (0,0)):=by rw [e2,<- n1];exact zt W1 _
 have b2:Bw W1 W2:=by rw [e2];exact zba _ _
 obtain⟨W3,e3⟩:=nm (W2.alloc (.cells (exC x q c).toArray 37));have f3:ExH W3 (w.heap.size+2) x q c:=by rw [e3,<- n2];exact zt W2 _
 have b3:Bw W2 W3:=by rw [e3];exact zba _ _
 have b13:=zst b1 (zst b2 b3);rw [<- e1,<- e2,<- e3];exact⟨⟨zb b3 (zb b2 f1),zb b3 f2,f3,ka.kept b13,kb.kept b13,b13⟩,n1,n2⟩
theorem LinsM.none:LinsM jS X none []:=⟨[],rfl,.nil,(fun x hx=>by cases hx),fun _ _ _=>trivial⟩
theorem zkx {t:Trm} {ls:List LineD} {r:RelD} (h:zax t ls x=some r):evR t ls x=(r,0):=by unfold evR;rw [h]
theorem zi9 {t:Trm} {ls:List LineD} (h:(evR t ls x).2=0):zax t ls x=some (evR t ls x).1:=by
 unfold evR at h ⊢
 cases e:zax t ls x with
 | none=>rw [e] at h;exact GD (show (2:Int)=0 from h) (by decide)
 | some r=>rfl
theorem zcL (a:RelD):zaO a a=true:=zfp.1 rfl
end
section
variable {x:ExD} {g:Bs->RelD} {lets:Bs->Bool}
theorem zn9 {k:UInt8} {nq:Bs} {kids:List Trm} {m:Nat} (h:(chkT lets m (.mk k nq kids)).1=true):k.toNat<10/\(kids.length:Int)=js k.toNat:=by
 rw [chkT] at h
 split at h
 ·cases h
 ·rename_i hc;exact⟨Jn fun hn=>hc (.inr (.inl (by omega))),Jn fun hn=>hc (.inr (.inr hn))⟩
mutual
theorem val_rel (h48:x.ev.length<=48) (hg:∀ s,(j7 s||lets s)=true->RelOk x.ev.length (g s)):∀ (t:Trm) (m:Nat),(chkT lets m t).1=true->RelOk x.ev.length (valT x g t)
 | .mk k nq kids,m,h=>by
  obtain⟨hk,hl⟩:=zn9 h;rw [chkT] at h;rw [valT]
  split at h
  ·cases h
  split at h
  ·rename_i h1;rw [GC h1];exact hg nq h
  rename_i h1;rw [GB h1]
  split at h
  ·rename_i h9;rw [GC h9];exact .idr h48 _
  rename_i h9;rw [GB h9]
  split at h
  ·cases h
  have hv:=val_rels h48 hg kids (m+1) h;have nk:∀ m:UInt8,k≠m->k.toNat≠m.toNat:=fun m h e=>h (Uj.1 e);obtain⟨l0,l1⟩:=zka k.toNat hk (nk 1 h1) (nk 9 h9) kids.length hl;have hH:RelOk x.ev.length (valH x g kids):=by rw [zjt l0];exact hv _ (gM _)
  split
  ·unfold un3
   split
   ·exact hH.back
   split
   ·exact hH.plus
   ·exact hH.star
  ·rename_i h678;obtain⟨l2,h2⟩:=l1 (nk 6 fun e=>h678 (.inl e)) (nk 7 fun e=>h678 (.inr (.inl e))) (nk 8 fun e=>h678 (.inr (.inr e)));have hS:RelOk x.ev.length (valS x g kids):=by rw [zjs l2];exact hv _ (gM _)
   unfold zvb
   split
   ·exact hH.union hS
   split
   ·exact hH.both hS
   split
   ·exact hH.minus hS
   split
   ·exact hH.then hS
   ·rename_i n2 n3 n4 n5
    exfalso
    rcases h2 with h | h | h | h
    ·exact nk 2 n2 h
    ·exact nk 3 n3 h
    ·exact nk 4 n4 h
    ·exact nk 5 n5 h
theorem val_rels (h48:x.ev.length<=48) (hg:∀ s,(j7 s||lets s)=true->RelOk x.ev.length (g s)):∀ (l:List Trm) (m:Nat),(chkL lets m l).1=true->∀ y∈l,RelOk x.ev.length (valT x g y)
 | [],m,h,y,hy=>by cases hy
 | z::r,m,h,y,hy=>by
  rw [chkL] at h
  split at h
  ·cases h
  ·rename_i n2 e;rcases UJ.1 hy with e2 | hy
   ·rw [e2];exact val_rel h48 hg z m (by rw [e])
   ·exact val_rels h48 hg r n2 h y hy
end
theorem ziv {n:Nat} (h:n<=48) (a b:Nat):RelOk n (zab n a b) := .of rfl h (fun i j hi hb=>by
  unfold zab at hb;rw [za3,bAT,dE] at hb;obtain⟨h1,h2⟩:=hb;refine⟨h1,?_⟩
  split at h2
  ·rw [Uf,bAT,zcl] at h2;by_cases hj:j<64
   ·have h3:=h2.2;rw [zdC (by omega) (by omega) hj,dE] at h3;omega
   ·have:=JF (nL (qS (n:Int)) (Kb (show 0<2 by decide) (show 64<=j by omega)));rw [this] at h2;exact GD h2.2 (by decide)
  ·rw [QF] at h2;cases h2) (zbF fun i _ h=>by
  split
  ·rw [zcl];exact KG Qz (qS _)
  ·decide)
theorem ziw {n i j:Nat} (h:n<=48) (hi:i<n) (hj:j<n):qN (zab n (jb n) (jb n)) i j=true:=by
 have hb:∀ k,k<n->(jb (n:Int)).testBit k=true:=fun k hk=>by
  rw [zcl,zdC (by omega) (by omega) (by omega),dE];omega
 unfold zab;rw [za3,Ux hi,UD,GC (hb i hi),Uf,hb j hj];rfl
theorem zgE (hx:XOk x) (hr:zY x=true) {s:Bs} (h:j7 s=true):RelOk x.ev.length (qr x s):=by
 have hc:=ziv hx.n (jb x.ev.length) (jb x.ev.length);have hf:zbf x (zab x.ev.length (jb x.ev.length) (jb x.ev.length))=true:=by
  unfold zbf;rw [hc.ok,hr,Ux hc.n];rfl
 have hn:(zab x.ev.length (jb x.ev.length) (jb x.ev.length)).n.toNat=x.ev.length:=by have:=hc.n;omega
 unfold qr;dsimp only
 split
 ·exact hx.po
 split
 ·exact hx.rf
 split
 ·exact hx.co
 split
 ·exact hx.rm
 split
 ·exact hx.dt
 split
 ·exact hx.ct
 split
 ·unfold frX;rw [GC hr];exact ztq hx
 split
 ·unfold zkf;rw [GC hr];exact .pick hx.n _
 split
 ·exact .idr hx.n _
 split
 ·unfold zku;rw [GC hf];unfold zfF;rw [hn];exact .pick hx.n _
 split
 ·unfold zkk;rw [GC hf];unfold zi5;rw [hn];exact .pick hx.n _
 ·rename_i h1 h2 h3 h4 h5 h6 h7 h8 h9 h10 h11
  exfalso
  unfold j7 at h;rw [Qm] at h;obtain⟨w,hw,he⟩:=h;have he:=(dT he).symm;subst he;simp only [UJ,Qx,Gy] at hw;rcases hw with h | h | h | h | h | h | h | h | h | h | h
  ·exact h1 h
  ·exact h2 h
  ·exact h3 h
  ·exact h7 h
  ·exact h4 h
  ·exact h5 h
  ·exact h6 h
  ·exact h8 h
  ·exact h9 h
  ·exact h10 h
  ·exact h11 h
theorem zor (hx:XOk x) (hr:zY x=true) {t:Trm} {m:Nat} (h:(chkT (fun _=>false) m t).1=true):RelOk x.ev.length (valT x (qr x) t) :=
 val_rel hx.n (fun s hs=>zgE hx hr (by simpa using hs)) t m h
end
theorem zt6 {s:Nat} {w:Wd} (hs:s<2^64) (hT:Tz64M w):Calls PG 64 #[s64 s] w fun e w' =>
  (∃ p c,e = .returned (.slice p (els s).length c)/\OwnS zC 3 w.heap.size w' p c (els s))/\Bw w w':=by
 refine zU 13 [s64 s] (.s .p (.c .p .p)) Tryz.func64 ?_;obtain⟨L,hL⟩:=nm (w.heap.size);refine⟨Unit,fun _=>⟨[(0,s64 s),(3,At0 L)],[]⟩,fun _ X=>X.heap[L]?=some (.cells #[.slice none 0 0] 128 (0,0))/\X.heap.size=L+1/\Bw w X,?_,?_⟩
 ·refine⟨(),⟨.cons rfl (.cons (by rw [hL];rfl) .nil),rfl⟩,?_,?_,?_⟩
  ·rw [hL];exact zt w _
  ·rw [hL];exact wz _ _
  ·exact (zba w _)
 rintro _ X ⟨f1,sX,hbX⟩;refine cmo zeo ?_;rintro e W ⟨rfl,hW⟩;have hbW:Bw X W:=by rw [hW];exact (zba _ _)
 have fb:W.heap[X.heap.size]?=some (.cells #[s64 s] 27 (0,0)):=by rw [hW];exact zt X _
 have sW:W.heap.size=L+2:=by rw [hW,wz,sX]
 have g1:=zb hbW f1;have hbw:Bw w W:=zst hbX hbW;have hTW:=hT.below hbw;clear hW;obtain⟨J,hJd⟩:∃ J:List Nat->(Nat->Prop)->Wd->Prop,J=fun pre F Y=>(W.heap.size<=Y.heap.size/\F L/\∀ k,F k->k<Y.heap.size)/\(∃ p c,Y.heap[L]?=some (.cells #[.slice p pre.length c] 128 (0,0))/\OwnS zC 3 W.heap.size Y p c pre/\∀ a,p=some a->F a.block)/\Bw w Y:=⟨_,rfl⟩;refine zcM (za9 _) rfl (lb := #[.pointer (some ⟨X.heap.size,0,none⟩)]) rfl rfl (zf1 fb hs hTW) (Gh _) (fun k hk=>⟨by rcases hk with (rfl | rfl) | h;exact hlt fb;exact zaf hTW;exact h.elim,rfl⟩) (fun pre vs W ⟨c,_,h⟩=>by rw [h];rfl) (by decide)
  (fun k=>k=L) J (fun _ _ _ _=>False)
  (fun k hk h=>by have:=zaf hT;rcases hk with rfl | rfl <;> omega) ⟨?_,?_⟩ (fun ex=>⟨fun _ _ _ _ h=>h.elim,fun _ _ _ _ h=>h.elim⟩) ?_ ?_ ?_ ?_
 ·rw [hJd];rintro pre F A B ⟨⟨h1,h2,h3⟩,⟨p,c,h4,h5,h6⟩,h7⟩ hs;refine⟨⟨UX h1 hs.size,h2,fun k hk=>nL (h3 k hk) hs.size⟩,⟨p,c,(hs.same L (h3 L h2) (.inr h2)).trans h4,h5.same fun a ha=>hs.same _ (h3 _ (h6 a ha)) (.inr (h6 a ha)),h6⟩,h7.trans ⟨hs.os,hs.tape,hs.output,hs.size,fun k hk=>hs.same k (by omega) (.inl ⟨by omega,fun h=>h⟩)⟩⟩
 ·rw [hJd];rintro pre F A k ⟨⟨_,_,h3⟩,_⟩ hk;exact⟨h3 k hk,fun h=>h⟩
 ·rw [hJd];exact⟨⟨Gh _,rfl,fun k hk=>by omega⟩,⟨none,0,g1,OwnS.nil,fun a h=>by cases h⟩,hbw⟩
 ·rw [hJd];rintro yl pre x vs F V hyl hpre hJ ⟨x',hx',rfl⟩ hfy ⟨lo,hlo⟩;have hx':x=x':=by simpa using hx'
  subst hx';refine⟨rfl,F,KeepsG.refl _ _,hJ,?_⟩;rintro o V2 hV2 ⟨⟨h1,h2,h3⟩,⟨p,c,h4,h5,h6⟩,h7⟩;have hpl:pre.length<(els s).length:=by
   obtain⟨t,ht⟩:=hpre;rw [<- ht];simp only [lap,Qu];omega
  have hel:=zdQ s;refine⟨_,zc (za h4) (i:=0) rfl,⟨by decide,by decide,rfl⟩,zC.enc x,rfl,?_⟩;have hba:Bw V2 (V2.alloc (.cells (zC.enc x).toArray 3)):=zba _ _;have sa:(V2.alloc (.cells (zC.enc x).toArray 3)).heap.size=V2.heap.size+1:=wz _ _;refine qQ (E:=zC) (T:=3) (B:=W.heap.size) (l:=pre) (news:=[x]) (cap:=c) (m:=1) Tryz.underlying128 k3 rfl rfl rfl (h5.below hba) rfl (qt zC x) (by omega) (by omega) (by show (pre.length+1)*8<=_;omega) ?_;intro p2 c2 Y oY gY hbY hat;have h4Y:Y.heap[L]?=some (.cells #[.slice p pre.length c] 128 (0,0)):=(hbY.block L (by omega)).trans (qe _ h4);refine zw znR h4Y (o:=0) (v := .slice p2 (pre++[x]).length c2) rfl rfl (by show 0<1;decide) rfl fun Z fZ gZ sZ=>?_;have sY:=gY.size;have pin:∀ a,p2=some a->F a.block\/V2.heap.size<=a.block:=fun a ha=>by
   rcases hat a ha with h | h
   ·exact .inl (h6 a h)
   ·rw [sa] at h;exact .inr (by omega)
  have p2lt:∀ a,p2=some a->W.heap.size<=a.block/\a.block<Y.heap.size:=fun a ha=>by
   rcases oY.inv with ⟨h,_⟩ | ⟨g,cur,h,hg1,hg2,_⟩
   ·rw [h] at ha;cases ha
   ·rw [h] at ha;cases ha;exact⟨hg1,hlt hg2⟩
  refine⟨fun k=>F k\/(V2.heap.size<=k/\k<Z.heap.size),⟨⟨by omega,.inl h2,fun k hk=>?_⟩,⟨p2,c2,fZ,oY.kept gZ (fun g hg=>?_),fun a ha=>?_⟩,?_⟩,⟨gZ.os.trans (gY.os.trans hba.os),gZ.tape.trans (gY.tape.trans hba.tape),gZ.output.trans (gY.output.trans hba.output),by omega,fun k hk hf=>?_,fun k hk=>?_⟩⟩
  ·rcases hk with hk | hk
   ·have:=h3 k hk;omega
   ·exact hk.2
  ·have:W.heap.size<=g:=(p2lt _ hg).1;intro e;simp only [Qb] at e;omega
  ·rcases pin a ha with h | h
   ·exact .inl h
   ·have:=(p2lt a ha).2;exact .inr ⟨h,by omega⟩
  ·have:=hbY.mono (B':=w.heap.size) (by omega);exact ((h7.trans (hba.mono (by omega))).trans this).trans (zo gZ (by omega) (by omega))
  ·refine (gZ.block k (by omega) (fun e=>?_)).trans ((gY.block k (by omega) (fun e=>?_)).trans (hba.block k hk))
   ·have e:k=L:=(by simpa using e);rw [e] at hf;exact hf h2
   ·cases p with
    | none=>simp [Value.ownBlock] at e
    | some a =>
     simp only [Value.ownBlock,Qb] at e;rw [e] at hf;exact hf (h6 a rfl)
  ·rcases hk with hk | hk
   ·exact .inl hk
   ·exact .inr hk.1
 ·rw [hJd];rintro D F Y hD hfD ⟨⟨h1,h2,h3⟩,⟨p,c,h4,h5,h6⟩,h7⟩ hdef;refine⟨_,zc (za h4) (i:=0) rfl,_,rfl,hdef,?_⟩;have hb:=z8 h7 (by omega:w.heap.size<=D) (.deferred none);refine⟨⟨p,c,rfl,?_⟩,hb⟩;have h8:OwnS zC 3 W.heap.size (Y.putObj D (.deferred none)) p c (els s):=h5.same fun a ha=>zj (fun e=>by rw [<- e] at hfD;exact hfD (h6 a ha));exact h8.lower (by omega)
 ·rintro D ex pre F Y hD hfD hpre h;exact h.elim
def zjV:Enc (Nat×Nat):=⟨fun p=>[i64 p.1,i64 p.2],2,fun _=>rfl,by decide,fun a u hu=>by
 simp only [UJ,Qx,Gy] at hu;rcases hu with rfl | rfl <;> rfl⟩
def zb6 (r:RelD) (a:Nat):List (Nat×Nat):=(els (r.to a)).map fun b=>(a,b)
def j9 (r:RelD):List (Nat×Nat):=if okR r=true then (List.range r.n.toNat).flatMap (zb6 r) else []
theorem zis (s:Nat):(els s).length<=64:=by
 unfold els;exact UX (JL _ _) (by rw [KX];omega)
theorem zjK (r:RelD):∀ k,((List.range k).flatMap (zb6 r)).length<=64*k
 | 0=>Gh _
 | k+1=>by
  rw [Ua,Kg,lap];have:=zjK r k;have h2:([k].flatMap (zb6 r)).length<=64:=by
   rw [KU,Qr,QO];unfold zb6;rw [QS];exact zis _
  omega
section
variable {w:Wd} {r:RelD}
theorem zsi (hr:zE r.to) (hT:Tz64M w):Calls PG 24 #[.agg (zf r).toArray] w fun e w'=>(∃ q c,e = .returned (.slice q (j9 r).length c)/\SlR zjV w' q (j9 r))/\Bw w w':=by
 refine zU 34 [.agg (zf r).toArray] (.c .p (.c .p (.s .p (.c .p .p)))) Tryz.func24 ?_;obtain⟨L,hL⟩:=nm (w.heap.size);refine⟨Unit,fun _=>⟨[(1,At0 L)],[]⟩,fun _ X=>zG X L r/\Bw w X,⟨(),⟨.cons (by rw [hL];rfl) .nil,rfl⟩,by rw [hL];exact zt w _,(zba w _)⟩,?_⟩;rintro _ X ⟨fX,hbX⟩;refine⟨Unit,fun _=>⟨[(1,At0 L)],[]⟩,fun _ Y=>okR r=true/\zG Y L r/\Bw w Y,?_,?_⟩
 ·refine⟨zf r,zd _,za fX,hlt fX,cmo (qA hr) ?_⟩;rintro e Y ⟨rfl,hbY⟩;have bY:=zst hbX hbY;refine biE (fun h=>?_) fun h=>?_
  ·have h:okR r=false:=zft h;have e0:j9 r=[]:=GB (by rw [h];decide);rw [e0];exact⟨⟨none,0,rfl,.nil⟩,bY⟩
  ·exact⟨(),(cvE rfl rfl),zed h,zb hbY fX,bY⟩
 clear fX hbX;clear X;rintro _ X ⟨hok,fX,hbX⟩;obtain⟨h0,h48,_⟩:=qy hok;obtain⟨n,hn⟩:∃ n:Nat,r.n=n:=⟨r.n.toNat,by omega⟩;have hpr:j9 r=(List.range n).flatMap (zb6 r):=by
  unfold j9;rw [GC hok,hn];rfl
 obtain⟨D,hD⟩:=nm (X.heap.size);refine⟨OA×Nat,fun s=>⟨[(3,.slice s.1 (j9 r).length s.2)],[]⟩,fun s Y=>OwnS zjV 130 D Y s.1 s.2 (j9 r)/\Below D X Y,?_,?_⟩
 ·refine⟨i64 r.n,by have:=zc (za fX) (i:=0) (v:=i64 r.n) rfl;exact this,?_⟩;rw [hn];refine⟨Nat×OA×Nat,fun s=>⟨[(1,At0 L),(3,.slice s.2.1 ((List.range s.1).flatMap (zb6 r)).length s.2.2),(11,i64 n),(12,i64 (s.1:Nat))],[]⟩,fun s Y=>s.1<=n/\OwnS zjV 130 D Y s.2.1 s.2.2 ((List.range s.1).flatMap (zb6 r))/\Below D X Y,fun s=>n-s.1,(0,none,0),
   (cvE rfl rfl),⟨Gj _,OwnS.nil,by rw [hD];exact Gm _ _⟩,?_⟩
  rintro⟨k,ps,cs⟩ Y ⟨hk,oY,hbY⟩;dsimp only at hk oY ⊢;have hYs:D<=Y.heap.size:=by have:=hbY.size;omega
  refine biE (fun hc=>?_) fun hc=>?_
  ·have hc:(k:Int)<(n:Int):=dT hc;have hkn:k<n:=by omega
   have hk48:k<48:=by omega
   have fY:=zb (by show Below _ _ _;rw [<- hD];exact hbY) fX;have hpl:=zjK r k;refine⟨k,rfl,hk48,s64 (r.to k),zfo fY k hk48,cmo (zt6 (hr k hk48) (hT.below (hbX.trans (hbY.mono (by rw [hD];exact hbX.size))))) ?_⟩;rintro e Z ⟨⟨pl,cl,rfl,oL⟩,hbZ⟩;have hZs:D<=Z.heap.size:=by have:=hbZ.size;omega
   have hel:=zis (r.to k);have zbT:∀ j (hj:j<(els (r.to k)).length),((els (r.to k)).take (j+1)).map (fun b=>(k,b))=((els (r.to k)).take j).map (fun b=>(k,b))++[(k,(els (r.to k))[j])]:=fun j hj=>by
    rw [tsg hj,QV];rfl
   refine⟨Nat×OA×Nat,fun s=>⟨[(1,At0 L),(3,.slice s.2.1 ((List.range k).flatMap (zb6 r)++((els (r.to k)).take s.1).map (fun b=>(k,b))).length s.2.2),(4,i64 (k:Nat)),(11,i64 n),(12,i64 (k:Nat)),(19,.slice pl (els (r.to k)).length cl),(20,i64 (els (r.to k)).length),(21,i64 (s.1:Nat))],[]⟩,
    fun s V=>s.1<=(els (r.to k)).length/\OwnS zjV 130 D V s.2.1 s.2.2 ((List.range k).flatMap (zb6 r)++((els (r.to k)).take s.1).map (fun b=>(k,b)))/\OwnS zC 3 D V pl cl (els (r.to k))/\Below D X V,fun s=>(els (r.to k)).length-s.1,(0,ps,cs),
    ⟨.cons rfl (.cons (by rw [Uu,UQ,QO];rfl) (.cons rfl (.cons rfl (.cons rfl (.cons rfl (.cons rfl (.cons rfl .nil))))))),rfl⟩,⟨Gj _,by rw [Uu,UQ,QO];exact oY.below hbZ,oL.lower hYs,hbY.trans (hbZ.mono hYs)⟩,?_⟩
   clear oL;rintro⟨j,pp,cc⟩ V ⟨hj,oV,rV,hbV⟩;dsimp only at hj oV ⊢;have hVs:D<=V.heap.size:=by have:=hbV.size;omega
   refine biE (fun hc=>?_) fun hc=>?_
   ·have hc:(j:Int)<((els (r.to k)).length:Int):=dT hc;have hjl:j<(els (r.to k)).length:=(by omega);obtain⟨bl,ol,hq,hbl,hat⟩:=rV.row.at hjl;obtain⟨v,hv⟩:∃ v,(els (r.to k))[j]=v:=⟨_,rfl⟩;have hatj:=hat j hjl;have hr1:=zbT j hjl;rw [hv] at hatj hr1;have htl:(((els (r.to k)).take j).map (fun b=>(k,b))).length=j:=(by rw [QS,Qw];omega);subst hq;refine⟨j,rfl,hjl,i64 v,by have:=zc hatj (i:=0) (v:=i64 v) rfl;exact this,[i64 k,i64 v],by kernel_rfl,?_⟩;refine⟨⟨by decide,by decide,rfl⟩,zjV.enc (k,v),by kernel_rfl,?_⟩;have hb2:Bw V (V.alloc (.cells (zjV.enc (k,v)).toArray 130)):=zba _ _;have sb2:=hb2.size;unfold zeb zas;show SatR _ _;refine qQ (E:=zjV) (T:=130) (news:=[(k,v)]) Tryz.underlying58 zvP rfl rfl rfl (oV.below hb2) rfl (qt zjV (k,v)) (by omega) (by rw [lap,htl];show _+j+1<=_;omega) (by rw [lap,htl];show (_+j+1)*16<=_;omega) fun p' c' S oS gS hbS hat2=>?_;rw [zaz] at gS;have rS:=(rV.below hb2).kept gS fun g hg e=>by
     obtain⟨_,_,cur,h1⟩:=zy (rV.below hb2) hg
     cases pp with
     | none=>cases e
     | some a =>
      obtain⟨_,_,cur2,h2⟩:=zy (oV.below hb2) rfl;have e:a.block=g:=(by simpa using e);rw [e,h1] at h2;have:=(Obj.cells.inj (Ui h2)).2.1;exact GD this (by decide)
    rw [KR,<- hr1] at oS ⊢;exact nxI (by omega) ⟨(j+1,p',c'),(cvE rfl rfl),⟨hjl,oS,rS,(hbV.trans (hb2.mono hVs)).trans hbS⟩,zdc (by omega)⟩
   ·have hc:¬ (j:Int)<((els (r.to k)).length:Int):=dF hc;obtain rfl:j=(els (r.to k)).length:=(by omega);have hnx:(List.range (k+1)).flatMap (zb6 r)=(List.range k).flatMap (zb6 r)++((els (r.to k)).take (els (r.to k)).length).map (fun b=>(k,b)):=by
     rw [Ua,Kg,KU,Qr,QO,Qy];rfl
    rw [<- hnx] at oV ⊢;exact nxI (by omega) ⟨(k+1,pp,cc),(cvE rfl rfl),⟨hkn,oV,hbV⟩,zdc (by omega)⟩
  ·have hc:¬ (k:Int)<(n:Int):=dF hc;obtain rfl:k=n:=by omega
   rw [<- hpr] at oY ⊢;exact⟨(ps,cs),(cvE rfl rfl),oY,hbY⟩
 rintro⟨ps,cs⟩ Y ⟨oY,hbY⟩;exact⟨⟨ps,cs,rfl,oY.row⟩,hbX.trans (hbY.mono (by rw [hD];exact hbX.size))⟩
end
def opR (k:UInt8) (a b:RelD):RelD×Int:=if k=2 then zX a b else if k=3 then zaT a b else if k=4 then zaQ a b else zbq a b
section
variable {x:ExD} {a b:Trm} {r s:RelD} {k:UInt8}
theorem zl9 (g:Bs->RelD) (hk:k=2\/k=3\/k=4\/k=5):valT x g (.mk k [] [a,b])=(opR k (valT x g a) (valT x g b)).1:=by
 rw [valT,valH,valS,valH];rcases hk with rfl | rfl | rfl | rfl <;> rfl
theorem zqL (g:Bs->RelD) (hk:k=6\/k=7\/k=8):valT x g (.mk k [] [a])=un3 k (valT x g a):=by
 rw [valT,valH];rcases hk with rfl | rfl | rfl <;> rfl
theorem zut {n:Nat} (hr:RelOk n r) (hs:RelOk n s):(opR k r s).2=0:=by
 unfold opR
 split
 ·exact zou hr hs
 split
 ·exact zr5 hr hs
 split
 ·exact zpp hr hs
 ·unfold zbq;rw [zbz hr hs]
theorem zfa (hw:WX x) (h:zax a [] x=some r):RelOk x.ev.length r:=by
 obtain⟨⟨m,hc⟩,hr,_,e⟩:=zbV h;rw [e];exact zor (zoj hw hr) hr (by rw [hc])
theorem znn (hw:WX x) (hk:k=2\/k=3\/k=4\/k=5) (ha:zax a [] x=some r) (hb:zax b [] x=some s):(opR k r s).2=0/\∀ u,zax (.mk k [] [a,b]) [] x=some u->u=(opR k r s).1:=by
 refine⟨zut (zfa hw ha) (zfa hw hb),fun u hu=>?_⟩;obtain⟨_,_,_,e⟩:=zbV hu;obtain⟨_,_,_,e1⟩:=zbV ha;obtain⟨_,_,_,e2⟩:=zbV hb;rw [e,zl9 _ hk,e1,e2]
theorem zno (hk:k=6\/k=7\/k=8) (ha:zax a [] x=some r):∀ u,zax (.mk k [] [a]) [] x=some u->u=un3 k r:=fun u hu=>by
 obtain⟨_,_,_,e⟩:=zbV hu;obtain⟨_,_,_,e1⟩:=zbV ha;rw [e,zqL _ hk,e1]
def zar:Bs:=[101,120,116]
def zaq:Bs:=[105,110,116]
theorem zmG (hr:zY x=true) (hk:k=2\/k=3):zax (.mk k [] [.mk 1 zar [],.mk 1 zaq []]) [] x=some (opR k (qr x zar) (qr x zaq)).1:=by
 have hc:(chkT (fun _=>false) 0 (.mk k [] [.mk 1 zar [],.mk 1 zaq []])).1=true:=by rcases hk with rfl | rfl <;> decide +kernel
 have hm:¬ (prT ⟨[],0,0⟩ (.mk k [] [.mk 1 zar [],.mk 1 zaq []])).most > 50:=by rcases hk with rfl | rfl <;> decide +kernel
 unfold zax;rw [zkv];dsimp only;rw [hc,hr,GC (show (true&&true)=true from rfl),GB hm,zl9 _ (by rcases hk with h | h;exact .inl h;exact .inr (.inl h))];have e:∀ s,valT x (zg3 x (qr x) []) (.mk 1 s [])=qr x s:=fun s=>by rw [valT,GC rfl];rfl
 rw [e,e]
theorem zmE (n:Nat):∀ m,((List.range m).filter fun j=>decide (j<n)).length=min m n
 | 0=>by simp
 | m+1=>by
  rw [Ua,Kw,lap,zmE n m];by_cases h:m<n
  ·rw [List.filter_cons_of_pos (by simpa using h)];simp only [List.filter_nil,Qu,QT];omega
  ·rw [List.filter_cons_of_neg (by simpa using h)];simp only [List.filter_nil,QT];omega
theorem zhX {r:RelD} {n:Nat}:∀ l:List Nat,(∀ i∈l,(zb6 r i).length=n)->(l.flatMap (zb6 r)).length=l.length*n
 | [],_=>by simp
 | i::l,h=>by
  rw [KU,lap,h i (KB ..),zhX l fun j hj=>h j (JW _ hj),Qu,Nat.succ_mul];omega
theorem znx {n:Nat} (h:RelOk n r) (hall:∀ i j,i<n->j<n->qN r i j=true):(j9 r).length=n*n:=by
 have h48:=h.le;have hn:r.n.toNat=n:=by have:=h.n;omega
 unfold j9;rw [GC h.ok,hn,zhX (n:=n) (List.range n) fun i hi=>?_,KX];have hi:=Ut.1 hi;unfold zb6 els;rw [QS];have e:(List.range 64).filter (fun j=>(r.to i).testBit j)=(List.range 64).filter fun j=>decide (j<n):=KT fun j _=>by
  by_cases hj:j<n
  ·rw [Ux hj];exact hall i j hi hj
  ·rw [Ul hj]
   cases hb:(r.to i).testBit j with
   | false=>rfl
   | true=>exact GD (h.bit (by omega) hb).2 hj
 rw [e,zmE];omega
theorem zoY (hw:WX x) (hr:zY x=true):RelOk x.ev.length (zX (qr x zar) (qr x zaq)).1/\RelOk x.ev.length (zaT (qr x zar) (qr x zaq)).1/\(j9 (zX (qr x zar) (qr x zaq)).1).length=x.ev.length*x.ev.length/\zdy (zaT (qr x zar) (qr x zaq)).1=true:=by
 have hx:=zoj hw hr;have h1:=zgE (s:=zar) hx hr (by decide);have h2:=zgE (s:=zaq) hx hr (by decide);have hc:=ziv hx.n (jb x.ev.length) (jb x.ev.length);have hn:(zab x.ev.length (jb x.ev.length) (jb x.ev.length)).n.toNat=x.ev.length:=by have:=hc.n;omega
 have hf:zbf x (zab x.ev.length (jb x.ev.length) (jb x.ev.length))=true:=by
  unfold zbf;rw [hc.ok,hr,Ux hc.n];rfl
 have e1:∀ i j,i<x.ev.length->j<x.ev.length->qN (qr x zar) i j = !decide ((evA x i).th=(evA x j).th):=fun i j hi hj=>by
  have:qr x zar=zfF x (zab x.ev.length (jb x.ev.length) (jb x.ev.length)):=GC hf;rw [this];unfold zfF;rw [hn,zgH,Ux hi,Ux hj,ziw hx.n hi hj];rfl
 have e2:∀ i j,i<x.ev.length->j<x.ev.length->qN (qr x zaq) i j=decide ((evA x i).th=(evA x j).th):=fun i j hi hj=>by
  have:qr x zaq=zi5 x (zab x.ev.length (jb x.ev.length) (jb x.ev.length)):=GC hf;rw [this];unfold zi5;rw [hn,zgH,Ux hi,Ux hj,ziw hx.n hi hj];rfl
 refine⟨h1.union h2,h1.both h2,znx (h1.union h2) fun i j hi hj=>?_,(znY (h1.both h2)).2 fun i j hi hj=>?_⟩
 ·rw [zhN h1 h2 hi,e1 i j hi hj,e2 i j hi hj]
  cases decide ((evA x i).th=(evA x j).th) <;> rfl
 ·rw [zqg h1 h2 hi,e1 i j hi hj,e2 i j hi hj]
  cases decide ((evA x i).th=(evA x j).th) <;> rfl
end
end Go.Proofs.YtnadlhpkpnfmbaaGreatDoor
