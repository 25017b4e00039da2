/- Contracts of functions, and plain facts, for the law that the last text of this claim proves. -/
import Derived.Test.YtnadlhpkpnfmbaaGreatDoorE4
import Derived.Test.YtnadlhpkpnfmbaaGreatDoorE3
import Derived.Test.YtnadlhpkpnfmbaaGreatDoorE6
import Derived.Test.YtnadlhpkpnfmbaaGreatDoorE5
import Derived.Test.YtnadlhpkpnfmbaaGreatDoorE1
import Derived.Lib.Replace
import Derived.Test.YtnadlhpkpnfmbaaGreatDoorE2
import Derived.Test.YtnadlhpkpnfmbaaGreatDoorRows
import Derived.ProofKit
import Derived.OpenShut
import Derived.LaidLaws
import Derived.Below
import Derived.HandedShaped
import Derived.KernelRfl
import Derived.WalkKit
import Derived.ChangeOld
import Derived.SevenTiedAt
import Derived.LaidHandle
import Derived.Stop.LaidErr
import Derived.Lib.LaidTab
import Derived.SizedLaws
set_option linter.unusedSimpArgs false
set_option linter.unusedVariables false
namespace Go.Proofs.YtnadlhpkpnfmbaaGreatDoor
open Go.Vc Go.RowKit Go.Sei
def wrE (R:RunD) (i:Nat) (v:UInt8):Bool:=(List.range i).any fun j=>decide ((R.ev j).k=2)&&decide ((R.ev j).v=v)
def wrL (rs:List RunD) (v:UInt8):Bool:=rs.any fun R=>wrE R R.many v
theorem zk7 (rs:List RunD):j6 rs=qf.filter (wrL rs):=rfl
def wrC (f:UInt8->Bool):List Value:=seg 256 fun i => .bool (f (UInt8.ofNat i))
theorem zk8 (f:UInt8->Bool) {i:Nat} (h:i<256):(wrC f)[i]?=some (.bool (f (UInt8.ofNat i))):=zc0 _ h
theorem zqI (f:UInt8->Bool) (x:UInt8):(wrC f).set x.toNat (.bool true)=wrC fun v=>f v||decide (x=v):=by
 have hx:=x.toNat_lt;apply KQ;intro j;by_cases hj:j<256
 ·rw [zk8 _ hj];by_cases e:x.toNat=j
  ·subst e;rw [JC (by unfold wrC;rw [zG];exact hx),UInt8.ofNat_toNat,Ut rfl,Bool.or_true]
  ·rw [JV e,zk8 _ hj];have:x≠UInt8.ofNat j:=fun h=>e (by rw [h,KH];omega);rw [Uj this,Uy]
 ·rw [JJ (by unfold wrC;rw [QS,zG];omega),JJ (by unfold wrC;rw [zG];omega)]
theorem zmo (f:UInt8->Bool):(wrC f).length=256:=zG _ _
theorem zos (rs:List RunD) (R:RunD) (v:UInt8):wrL (rs++[R]) v=(wrL rs v||wrE R R.many v):=by
 unfold wrL;rw [List.any_append];simp
theorem zot (R:RunD) (i:Nat) (v:UInt8):wrE R (i+1) v=(wrE R i v||(decide ((R.ev i).k=2)&&decide ((R.ev i).v=v))):=by
 unfold wrE;rw [QY,List.any_append];simp
theorem zlP (p:UInt8->Bool) (x:UInt8):[x].filter p=if p x=true then [x] else []:=by
 rw [Qo,List.filter_nil]
theorem zqj {k:Nat} (h:k<256):∃ hl:k<qf.length,qf[k]=UInt8.ofNat k:=by
 have hl:qf.length=256:=by unfold qf;rw [QQ,KV]
 refine⟨by rw [hl];exact h,?_⟩;simp [qf]
theorem zvq:List.replicate 256 (Value.bool false)=wrC fun _=>false:=by kernel_rfl
section
variable {l:List InsD} {dom:List UInt8} {q p:OA} {cap cd:Nat} {w:Wd}
theorem zoq (hl:SlR qr w q l) (hp:SlR zO w p dom) (h12:l.length<=12) (hx:∀ x∈l,zdI x) (hR:∀ R∈zaf l dom,R.many<=24) (hm:(zaf l dom).length<=4096) (hqb:∀ a,q=some a->a.block<w.heap.size) (hpb:∀ a,p=some a->a.block<w.heap.size) (hdl:dom.length<=1000) :
  Calls PG 137 #[.slice q l.length cap,.slice p dom.length cd] w fun e w'=>(∃ (p':OA) (c':Nat),e = .returned (.tuple #[.slice p' (j6 (zaf l dom)).length c',.bool true])/\OwnS zO 5 w.heap.size w' p' c' (j6 (zaf l dom)))/\Bw w w':=by
 refine z6 55 [.slice q l.length cap,.slice p dom.length cd] (.c .p (.c .p (.c .p (.c .p (.s .p (.c .p .p)))))) Tryz.func137 ?_;obtain⟨L,hL⟩:=nm (w.heap.size);refine⟨Unit,fun _=>⟨[(0,.slice q l.length cap),(1,.slice p dom.length cd),(4,AtR L),(5,AtR (L+1))],[]⟩,fun _ X=>X.heap[L]?=some (.cells #[.slice none 0 0] 72 (0,0))/\X.heap[L+1]?=some (.cells #[.bool false] 4 (0,0))/\X.heap.size=L+2/\Bw w X,?_,?_⟩
 ·have s1:=wz w (.cells #[.slice none 0 0] 72);have h2:=zA (w.alloc (.cells #[.slice none 0 0] 72)) (.cells #[.bool false] 4);have s2:=wz (w.alloc (.cells #[.slice none 0 0] 72)) (.cells #[.bool false] 4);rw [s1] at h2 s2;refine⟨(),⟨.cons rfl (.cons rfl (.cons (by rw [hL];rfl) (.cons (by rw [hL,<- s1];rfl) .nil))),rfl⟩,?_,?_,?_,?_⟩
  ·rw [hL];exact qy _ (zA w _)
  ·rw [hL];exact h2
  ·rw [hL];exact s2
  ·exact ((zba w _)).alloc (by simp) _
 rintro _ X ⟨f0,f1,sX,hbX⟩;refine⟨Unit,fun _=>⟨[(0,.slice q l.length cap),(1,.slice p dom.length cd),(4,AtR L),(5,AtR (L+1)),(6,AtR (L+2))],[]⟩,fun _ Y=>Y.heap[L+2]?=some (.cells (wrC fun _=>false).toArray 281 (0,0))/\Y.heap.size=L+3/\Bw X Y,?_,?_⟩
 ·refine⟨(),⟨.cons rfl (.cons rfl (.cons rfl (.cons rfl (.cons (by rw [<- sX];rfl) .nil)))),rfl⟩,?_,?_,?_⟩
  ·rw [<- sX,<- zvq];exact zA X _
  ·have:=wz X (.cells (List.replicate 256 (Value.bool false)).toArray 281);rw [sX] at this;exact this
  ·exact (zba X _)
 rintro _ Y ⟨f2,sY,hbY⟩;refine⟨Unit,fun _=>⟨[(0,.slice q l.length cap),(1,.slice p dom.length cd),(4,AtR L),(5,AtR (L+1)),(6,AtR (L+2)),(7,AtR (L+3))],[]⟩,fun _ Z=>Z.heap[L+3]?=some (.cells [i64 (0:Nat)].toArray 3 (0,0))/\Z.heap.size=L+4/\Bw Y Z,?_,?_⟩
 ·refine zk (X:=Y) (v:=i64 0) k3 rfl rfl rfl fun Z hbZ fZ sZ=>?_;rw [sY] at fZ sZ;exact⟨(),⟨.cons rfl (.cons rfl (.cons rfl (.cons rfl (.cons rfl (.cons (by rw [<- sY];rfl) .nil))))),rfl⟩,fZ,sZ,hbZ⟩
 rintro _ V ⟨f3,sV,hbV⟩;have hXV:Bw X V:=zst hbY hbV;have hwV:=zst hbX hXV;have f0:=zb hXV f0;have f1:=zb hXV f1;have f2:=zb hbV f2;clear hbX hbY hbV hXV;obtain⟨xs,hxs⟩:=nm (zaf l dom);rw [<- hxs] at hR hm ⊢;refine⟨Nat,fun D1=>⟨[(4,AtR L),(5,AtR (L+1)),(6,AtR (L+2))],[{ target := .collected D1,args := #[] }]⟩,fun D1 U=>U.heap[L+2]?=some (.cells (wrC (wrL xs)).toArray 281 (0,0))/\U.heap[D1]?=some (.deferred (some []))/\L+2<D1/\Below (L+2) V U,?_,?_⟩
 ·refine cmo zji ?_;rintro e W ⟨rfl,fi,fd,sW,hbW⟩;have hwW:=zst hwV hbW;have hI:=zlV (q:=q) (p:=p) (hl.below hwW) (hp.below hwW) fi fd (fun a ha=>by have:=hqb a ha;have:=hwW.size;omega) (fun a ha=>by have:=hpb a ha;have:=hwW.size;omega) h12 hx hdl;rw [<- hxs] at hI;obtain⟨J,hJ⟩:∃ J:List RunD->Wd->Prop,J=fun pre Y=>W.heap.size<=Y.heap.size/\Y.heap[L+2]?=some (.cells (wrC (wrL pre)).toArray 281 (0,0))/\Y.heap[L+3]?=some (.cells [i64 pre.length].toArray 3 (0,0))/\Below (L+2) W Y:=⟨_,rfl⟩;obtain⟨F0,hF0⟩:∃ F0:Nat->Prop,F0=fun k=>k=L+2\/k=L+3:=⟨_,rfl⟩;refine zc4 (zbi _) rfl (lb := #[AtR V.heap.size,AtR (V.heap.size+1)]) rfl rfl hI (Gc _) (fun k hk=>⟨?_,rfl⟩) (fun pre vs W ⟨R,b,_,h,_⟩=>by rw [h];rfl) (by decide)
   F0 (fun pre F Y=>F=F0/\J pre Y) (fun _ _ _ _=>False) (fun k hk=>?_)
   (joG (F:=F0) (J:=J) (fun k h=>by rw [hF0] at h;omega) (fun s A h=>by rw [hJ] at h;exact h.1) (fun pre A B h hb=>by
    rw [hJ] at h ⊢;obtain⟨h1,h2,h3,h4⟩:=h;exact⟨UT h1 hb.size,zac hb (by omega) h2,zac hb (by omega) h3,h4.trans (hb.mono (by omega))⟩))
   (fun ex=>⟨fun _ _ _ _ h=>h.elim,fun _ _ _ _ h=>h.elim⟩) ⟨rfl,by rw [hJ];exact⟨Gc _,zb hbW f2,zb hbW f3,Gh _ _⟩⟩ ?_ ?_ ?_
  ·rcases hk with ((rfl | rfl) | ⟨a,ha,rfl⟩ | ⟨a,ha,rfl⟩) | h
   ·omega
   ·omega
   ·have:=hqb a ha;have:=hwW.size;omega
   ·have:=hpb a ha;have:=hwW.size;omega
   ·exact h.elim
  ·rw [hF0];rcases hk with (rfl | rfl) | ⟨a,ha,rfl⟩ | ⟨a,ha,rfl⟩
   ·omega
   ·omega
   ·have:=hqb a ha;omega
   ·have:=hpb a ha;omega
  ·rintro yl pre x vs F Y hyl hpre hJ0 ⟨R,b,hlast,rfl,fR⟩ hfy ⟨lo,hlo⟩;have hxR:x=R:=by simpa using hlast
   subst hxR;refine⟨rfl,F,KeepsG.refl _ _,hJ0,?_⟩;rintro o Y2 hY2 ⟨rfl,hJ2⟩;rw [hJ] at hJ2;obtain⟨h1,h2,h3,h4⟩:=hJ2;have hbl:b≠yl:=fun e=>by
    rw [e] at fR;rw [fR] at hlo
    cases hlo
   have fR2:zau Y2 b x:=by rw [hY2];exact (zj hbl).trans fR
   have r1:=hR x (hpre.subset (by simp));have hpl:pre.length<xs.length:=by
    obtain⟨t,ht⟩:=hpre;rw [<- ht];simp only [lap,Qt];omega
   refine⟨_,zc (za h3) (i:=0) rfl,?_⟩;refine brN (Uj (by omega)) ?_;refine⟨_,zc (za h3) (i:=0) rfl,?_⟩;refine⟨((pre.length+1:Nat):Int),(zi (by omega)).trans (by omega),?_⟩;refine zu k3 h3 (o:=0) (v:=i64 (pre.length+1:Nat)) rfl rfl (by show 0<1;decide) rfl fun Z fZ gZ sZ=>?_;have fRZ:zau Z b x:=(gZ.block b (hlt fR2) (fun e=>by
    have e:b=L+3:=(by simpa using e);rw [e] at fR2;rw [fR2] at h3;simp at h3)).trans fR2
   have f2Z:=(gZ.block (L+2) (hlt h2) (by simp)).trans h2;have kZ:KeepsG F F Y2 Z:=KeepsG.grown gZ (by rw [hF0];exact .inr rfl);have bZ:Below (L+2) W Z:=h4.trans (zm gZ (by omega) (by omega));refine DrawE.ord [] [0,1,2,3,4,5,6,7,8,9] (by kernel_rfl) ?_;have hdZ:Bw Z Z.drew:=(Gh _ _).drew;refine⟨_,zc (za (hdr fRZ)) (i:=18) (zbz x),?_⟩;refine⟨x.many,rfl,r1,?_⟩;have ecut:qS (some ⟨b,0+19,none⟩) 24 0 7=some ⟨b,19,none⟩:=by rw [zcH,UX]
   refine⟨Nat,fun i=>⟨[(6,AtR (L+2)),(7,AtR (L+3)),(29,.slice (some ⟨b,19,none⟩) (x.many-0) (24-0)),(30,i64 (x.many:Nat)),(31,i64 (i:Nat))],[]⟩,
    fun i T=>i<=x.many/\T.heap[L+2]?=some (.cells (wrC fun v=>wrL pre v||wrE x i v).toArray 281 (0,0))/\zau T b x/\T.heap[L+3]?=some (.cells [i64 (pre.length+1:Nat)].toArray 3 (0,0))/\KeepsG F F Y2 T/\Below (L+2) W T,fun i=>x.many-i,0,
    ⟨.cons rfl (.cons rfl (.cons (by rw [<- ecut];rfl) (.cons rfl (.cons rfl .nil)))),rfl⟩,⟨Ge _,?_,hdr fRZ,hdr fZ,kZ.trans (KeepsG.below hdZ fun k h => .inl h),bZ.drew⟩,?_⟩
   ·have e:(fun v=>wrL pre v||wrE x 0 v)=wrL pre:=by
     funext v;show (wrL pre v||false)=_;rw [Uy]
    rw [e];exact f2Z
   rintro i T ⟨hi,t2,tR,t3,kT,bT⟩;have hTs:=kT.size;refine biE (fun hc=>?_) fun hc=>?_
   ·have hc:(i:Int)<(x.many:Int):=dT hc;have him:i<x.many:=(by omega);refine⟨i,rfl,him,?_⟩;have hev:zo T ⟨b,19+i*7,none⟩ (evE.enc (x.ev i)):=by
     have:=zM (n:=i*7) (m:=7) (zmw tR);rw [zp3 x.ev (show i<24 by omega)] at this;exact this
    refine⟨evE.enc (x.ev i),rfl,hev,hlt tR,?_⟩;refine zk (X:=T) (v := .agg (evE.enc (x.ev i)).toArray) zd3 rfl rfl rfl fun T2 hb2 fT2 sT2=>?_;have k2:KeepsG F F Y2 T2:=kT.trans (KeepsG.below hb2 fun k h => .inl h);have b2:Below (L+2) W T2:=bT.trans (hb2.mono (by omega));have n1:=zot x i;refine⟨_,zc (za fT2) (i:=1) rfl,?_⟩;have u2:=zb hb2 t2;have uR:=zb hb2 tR;have u3:=zb hb2 t3;refine biE (fun hk=>?_) fun hk=>?_
    ·have hk:(x.ev i).k=2:=qV.1 (dT hk);refine⟨_,zc (za fT2) (i:=3) rfl,?_⟩;refine⟨((x.ev i).v).toNat,rfl,((x.ev i).v).toNat_lt,?_⟩;refine zu k4 u2 (o:=0+((x.ev i).v).toNat*1) (v := .bool true) rfl rfl (by rw [zmo];have:=((x.ev i).v).toNat_lt;omega) rfl fun T3 fT3 gT3 sT3=>?_;rw [UX,Gd,zqI] at fT3;have k3:KeepsG F F Y2 T3:=k2.trans (KeepsG.grown gT3 (by rw [hF0];exact .inl rfl));have hT2s:=k2.size;refine nxI (by omega) ?_;refine⟨i+1,(cvE rfl rfl),⟨him,?_,(gT3.block b (hlt uR) (fun e=>by
      have e:b=L+2:=(by simpa using e);rw [e] at uR;rw [uR] at u2;simp at u2)).trans uR,(gT3.block (L+3) (hlt u3) (by simp)).trans u3,k3,b2.trans (zm gT3 (by omega) (Gc _))⟩,zdc (by omega)⟩
     have e:(fun v=>wrL pre v||wrE x (i+1) v)=fun v=>(wrL pre v||wrE x i v)||decide ((x.ev i).v=v):=by
      funext v;rw [n1,Ut hk,Uz,Bool.or_assoc]
     rw [e];exact fT3
    ·have hk:¬ (x.ev i).k=2:=fun e=>(dF hk) (by rw [e];rfl);refine nxI (by omega) ?_;refine⟨i+1,(cvE rfl rfl),⟨him,?_,uR,u3,k2,b2⟩,zdc (by omega)⟩;have e:(fun v=>wrL pre v||wrE x (i+1) v)=fun v=>(wrL pre v||wrE x i v):=by
      funext v;rw [n1,Uj hk,Ul,Uy]
     rw [e];exact u2
   ·have hc:¬ (i:Int)<(x.many:Int):=dF hc;obtain rfl:i=x.many:=(by omega);refine⟨F,⟨rfl,?_⟩,kT⟩;rw [hJ];refine⟨by omega,?_,by rw [lap];exact t3,bT⟩;have e:wrL (pre++[x])=fun v=>wrL pre v||wrE x x.many v:=by
     funext v;exact zos pre x v
    rw [e];exact t2
  ·rintro D1 F Y hD hfD ⟨rfl,hj⟩ hdef;rw [hJ] at hj;obtain⟨h1,h2,h3,h4⟩:=hj;exact⟨D1,(cvE rfl rfl),h2,hdef,by omega,(hbW.mono (by omega)).trans h4⟩
  ·rintro D ex pre F Y hD hfD hpre h;exact h.elim
 clear f2 f3;rintro D1 U ⟨f2,fD1,hLD,bU⟩;have f0:U.heap[L]?=some (.cells #[.slice none 0 0] 72 (0,0)):=(bU.block L (by omega)).trans f0;have f1:U.heap[L+1]?=some (.cells #[.bool false] 4 (0,0)):=(bU.block (L+1) (by omega)).trans f1;have hwU:Bw w U:=hwV.trans (bU.mono (by omega));have sU:=hlt f2;have sD:=hlt fD1;clear bU hwV;refine⟨List UInt8×OA×Nat,fun s=>⟨[(4,AtR L),(5,AtR (L+1)),(11,.slice s.2.1 s.1.length s.2.2)],[{ target := .collected D1,args := #[] }]⟩,fun s Z=>s.1=j6 xs/\OwnS zO 5 U.heap.size Z s.2.1 s.2.2 s.1/\Bw U Z,?_,?_⟩
 ·refine⟨wrC (wrL xs),zmo _,za f2,hlt f2,?_⟩;refine⟨Nat×OA×Nat,fun s=>⟨[(4,AtR L),(5,AtR (L+1)),(11,.slice s.2.1 ((qf.take s.1).filter (wrL xs)).length s.2.2),(42,.agg (wrC (wrL xs)).toArray),(43,i64 (s.1:Nat))],[{ target := .collected D1,args := #[] }]⟩,
   fun s Z=>s.1<=256/\OwnS zO 5 U.heap.size Z s.2.1 s.2.2 ((qf.take s.1).filter (wrL xs))/\Bw U Z,fun s=>256-s.1,(0,none,0),
   (cvE rfl rfl),⟨Ge _,OwnS.nil,Gh _ _⟩,?_⟩
  rintro⟨k,r,c⟩ Z ⟨hk,ho,hbZ⟩;dsimp only at hk ho ⊢;have hZs:=hbZ.size;refine biE (fun hc=>?_) fun hc=>?_
  ·have hc:(k:Int)<256:=dT hc;have hk2:k<256:=by omega
   have tk:qf.take (k+1)=qf.take k++[UInt8.ofNat k]:=by
    obtain⟨hlb,hbk⟩:=zqj hk2;rw [tsg hlb,hbk]
   have fl:(qf.take (k+1)).filter (wrL xs)=(qf.take k).filter (wrL xs)++(if wrL xs (UInt8.ofNat k)=true then [UInt8.ofNat k] else []):=by
    rw [tk,Kv,zlP]
   have hfl:((qf.take k).filter (wrL xs)).length<=256:=by
    have h1:=JL (wrL xs) (qf.take k);rw [Qv] at h1;omega
   refine⟨k,rfl,hk2,?_⟩;refine za5 (by rw [Gd];exact zk8 _ hk2) ?_;refine biE (fun hv=>?_) fun hv=>?_
   ·rw [Gx hv] at fl;refine⟨_,w8N k,?_⟩;refine⟨⟨by decide,by decide,rfl⟩,zO.enc (UInt8.ofNat k),rfl,?_⟩;have hba:Bw Z (Z.alloc (.cells (zO.enc (UInt8.ofNat k)).toArray 5)):=zba _ _;refine ji (E:=zO) (T:=5) (B:=U.heap.size) (l:=(qf.take k).filter (wrL xs)) (news:=[UInt8.ofNat k]) (cap:=c) (m:=1) Tryz.underlying72 k5 rfl rfl rfl (ho.below hba) rfl (qF zO (UInt8.ofNat k)) (by have:=hba.size;omega) (by omega) (by show (((qf.take k).filter (wrL xs)).length+1)*1<=_;omega) ?_;intro p2 c2 T oT gT hbT hat;refine nxI (by omega) ?_;refine⟨(k+1,p2,c2),⟨.cons rfl (.cons rfl (.cons (by rw [fl];rfl) (.cons rfl (.cons rfl .nil)))),rfl⟩,⟨hk2,by show OwnS zO _ _ _ _ _ ((qf.take (k+1)).filter (wrL xs));rw [fl];exact oT,(hbZ.trans (hba.mono hZs)).trans hbT⟩,zdc (by omega)⟩
   ·have hv:wrL xs (UInt8.ofNat k)=false:=hv;rw [hv,Gw Ku,QM] at fl;refine nxI (by omega) ?_;exact⟨(k+1,r,c),⟨.cons rfl (.cons rfl (.cons (by rw [fl];rfl) (.cons rfl (.cons rfl .nil)))),rfl⟩,⟨hk2,by show OwnS zO _ _ _ _ _ ((qf.take (k+1)).filter (wrL xs));rw [fl];exact ho,hbZ⟩,zdc (by omega)⟩
  ·have hc:¬ (k:Int)<256:=dF hc;obtain rfl:k=256:=by omega
   have e:(qf.take 256).filter (wrL xs)=j6 xs:=by
    rw [zk7,JE (by unfold qf;rw [QQ,KV];exact Gc _)]
   rw [e] at ho;exact⟨(j6 xs,r,c),⟨.cons rfl (.cons rfl (.cons (by rw [e];rfl) .nil)),rfl⟩,rfl,ho,hbZ⟩
 rintro⟨ys,r,c⟩ Z ⟨rfl,ho,hbZ⟩;dsimp only at ho ⊢;have hZs:=hbZ.size;have g0:=zb hbZ f0;have g1:=zb hbZ f1;have gD:=zb hbZ fD1;refine zu k72 g0 (o:=0) (v := .slice r (j6 xs).length c) rfl rfl (by show 0<1;decide) rfl fun Z1 fZ1 gZ1 sZ1=>?_;have g1':=(gZ1.block (L+1) (hlt g1) (by simp)).trans g1;refine zu k4 g1' (o:=0) (v := .bool true) rfl rfl (by show 0<1;decide) rfl fun Z2 fZ2 gZ2 sZ2=>?_;have k2:∀ k,k<Z.heap.size->k≠L->k≠L+1->Z2.heap[k]?=Z.heap[k]?:=fun k hk n1 n2=>(gZ2.block k (by rw [sZ1];exact hk) (by simpa using n2)).trans (gZ1.block k hk (by simpa using n1));have fZ1':=(gZ2.block L (hlt fZ1) (by simp)).trans fZ1;refine⟨_,rfl,(k2 D1 (hlt gD) (by omega) (by omega)).trans gD,?_⟩;refine⟨.slice r (j6 xs).length c,?_,.bool true,?_,⟨r,c,rfl,?_⟩,?_⟩
 ·exact zc (za ((zj (by omega)).trans fZ1')) (i:=0) rfl
 ·exact zc (za ((zj (by omega)).trans fZ2)) (i:=0) rfl
 ·refine OwnS.lower (ho.same fun a ha=>?_) hwU.size;have h:=zaI ho ha;exact (zj (by omega)).trans (k2 _ h.2.1 (by omega) (by omega))
 ·have hwZ:=zst hwU hbZ;exact qX ((hwZ.trans (zm gZ1 hwZ.size (by omega))).trans (zm gZ2 (by rw [sZ1];exact hwZ.size) (by omega))) (by omega) _
end
theorem zdv {a b:Nat}:decide ((a:Int)<(b:Int))=decide (a<b):=by rw [QH];omega
def jk (c:Cnd):Bool:=decide (c.thread=0)&&(decide (c.n=0)&&decide (c.val=0))
theorem zas {threads locs d:Nat} (c:Cnd):zag threads locs (d+1) c=(if c.kind=0 then jk c&&decide (c.kids.length=0) else
  if c.kind=1 then decide (c.thread.toNat<threads)&&(decide (c.n.toNat<8)&&decide (c.kids.length=0)) else
  if c.kind=2 then decide (c.n.toNat<locs)&&(decide (c.thread=0)&&decide (c.kids.length=0)) else
  if c.kind=3\/c.kind=4 then jk c&&(decide (2<=c.kids.length)&&c.kids.all (zag threads locs d)) else
  if c.kind=5 then jk c&&(decide (c.kids.length=1)&&c.kids.all (zag threads locs d)) else false):=by
 obtain⟨k,t,n,v,kids⟩:=c;rfl
def zsG (c:Cnd):Prop:=(c.kind=3\/c.kind=4)/\jk c=true/\2<=c.kids.length\/c.kind=5/\jk c=true/\c.kids.length=1
theorem zl0 {threads locs d:Nat} {c:Cnd} (h:zsG c):zag threads locs (d+1) c=c.kids.all (zag threads locs d):=by
 rw [zas];rcases h with ⟨h1,h2,h3⟩ | ⟨h1,h2,h3⟩
 ·rw [Gw (by rcases h1 with h | h <;> rw [h] <;> decide),Gw (by rcases h1 with h | h <;> rw [h] <;> decide),Gw (by rcases h1 with h | h <;> rw [h] <;> decide),Gx h1,h2,Ut h3];rfl
 ·rw [Gw (by rw [h1];decide),Gw (by rw [h1];decide),Gw (by rw [h1];decide),Gw (by rw [h1];decide),Gx h1,h2,Ut h3];rfl
theorem zkN {B threads locs:Nat} {w:Wd} (hB:B<=w.heap.size):∀ (d:Nat) (c:Cnd) (b o:Nat) (p:OA) (cap:Nat),d<=1000->b<B->zo w ⟨b,o,none⟩ (zbe c p cap)->KidsV B w p c.kids ->
  Calls PG 225 #[.pointer (some ⟨b,o,none⟩),i64 threads,i64 locs,i64 d] w fun e w'=>e = .returned (.bool (zag threads locs d c))/\w=w':=by
 intro d
 induction d with
 | zero =>
  intro c b o p cap _ hb hc hk;refine zD 141 [.pointer (some ⟨b,o,none⟩),i64 threads,i64 locs,i64 0] Tryz.func225 ?_;exact brT ⟨rfl,rfl⟩
 | succ d ih =>
  intro c b o p cap hd hb hc hk;refine z6 141 [.pointer (some ⟨b,o,none⟩),i64 threads,i64 locs,i64 (d+1:Nat)] (.s .p (.s .p (.c .p (.c .p .p)))) Tryz.func225 ?_;have hbl:b<w.heap.size:=nL hb hB;refine biE (fun h=>?_) fun h=>?_
  ·have h:((d+1:Nat):Int)=0:=dT h;omega
  clear h;refine⟨Unit,fun _=>⟨[(0,.pointer (some ⟨b,o,none⟩)),(1,i64 threads),(2,i64 locs),(3,i64 (d+1:Nat)),(9,.bool (jk c))],[]⟩,fun _ X=>w=X,?_,?_⟩
  ·have fin:∀ {v:Bool},v=jk c->some (Value.bool v)=some (.bool (jk c)):=fun h=>by rw [h]
   refine⟨_,zc hc (i:=1) rfl,biE (fun h1=>?_) fun h1=>?_⟩
   ·have h1:decide (c.thread=0)=true:=(u8d c.thread 0).symm.trans h1;refine⟨_,zc hc (i:=2) rfl,biE (fun h2=>?_) fun h2=>?_⟩
    ·have h2:decide (c.n=0)=true:=(u8d c.n 0).symm.trans h2;exact⟨_,zc hc (i:=3) rfl,(),⟨.cons rfl (.cons rfl (.cons rfl (.cons rfl (.cons (fin (by unfold jk;rw [h1,h2];exact u8d c.val 0)) .nil)))),rfl⟩,rfl⟩
    ·have h2:decide (c.n=0)=false:=(u8d c.n 0).symm.trans h2;exact⟨(),⟨.cons rfl (.cons rfl (.cons rfl (.cons rfl (.cons (fin (by unfold jk;rw [h1,h2];rfl)) .nil)))),rfl⟩,rfl⟩
   ·have h1:decide (c.thread=0)=false:=(u8d c.thread 0).symm.trans h1;exact brF ⟨(),⟨.cons rfl (.cons rfl (.cons rfl (.cons rfl (.cons (fin (by unfold jk;rw [h1];rfl)) .nil)))),rfl⟩,rfl⟩
  rintro _ _ rfl;refine⟨Unit,fun _=>⟨[(0,.pointer (some ⟨b,o,none⟩)),(1,i64 threads),(2,i64 locs),(3,i64 (d+1:Nat))],[]⟩,fun _ X=>zsG c/\w=X,?_,?_⟩
  ·have hkn:c.kids.length<=140737488351232:=by have:=hk.inv.1;omega
   refine⟨_,zc hc (i:=0) rfl,biE (fun h0=>?_) fun h0=>?_⟩
   ·have h0:c.kind=0:=dT ((u8d c.kind 0).symm.trans h0);have e:zag threads locs (d+1) c=(jk c&&decide (c.kids.length=0)):=(by rw [zas,Gx h0]);rw [e];refine biE (fun h=>?_) fun h=>?_
    ·have h:jk c=true:=h;exact⟨_,zc hc (i:=4) rfl,rb (by rw [h,Uz];exact zbX),rfl⟩
    ·have h:jk c=false:=h;exact⟨rb (by rw [h];rfl),rfl⟩
   have h0:¬ c.kind=0:=dF ((u8d c.kind 0).symm.trans h0);refine biE (fun h1=>?_) fun h1=>?_
   ·have h1:c.kind=1:=dT ((u8d c.kind 1).symm.trans h1);have e:zag threads locs (d+1) c=(decide (c.thread.toNat<threads)&&(decide (c.n.toNat<8)&&decide (c.kids.length=0))):=(by rw [zas,Gw h0,Gx h1]);rw [e];refine⟨_,zc hc (i:=1) rfl,_,qA _,biE (fun h=>?_) fun h=>?_⟩
    ·have h:decide (c.thread.toNat<threads)=true:=zdv.symm.trans h;refine⟨_,zc hc (i:=2) rfl,biE (fun h2=>?_) fun h2=>?_⟩
     ·have h2:decide (c.n.toNat<8)=true:=(zdv (b:=8)).symm.trans h2;exact⟨_,zc hc (i:=4) rfl,rb (by rw [h,h2];exact zbX),rfl⟩
     ·have h2:decide (c.n.toNat<8)=false:=(zdv (b:=8)).symm.trans h2;exact⟨rb (by rw [h,h2];rfl),rfl⟩
    ·have h:decide (c.thread.toNat<threads)=false:=zdv.symm.trans h;exact brF ⟨rb (by rw [h];rfl),rfl⟩
   have h1:¬ c.kind=1:=dF ((u8d c.kind 1).symm.trans h1);refine biE (fun h2=>?_) fun h2=>?_
   ·have h2:c.kind=2:=dT ((u8d c.kind 2).symm.trans h2);have e:zag threads locs (d+1) c=(decide (c.n.toNat<locs)&&(decide (c.thread=0)&&decide (c.kids.length=0))):=(by rw [zas,Gw h0,Gw h1,Gx h2]);rw [e];refine⟨_,zc hc (i:=2) rfl,_,qA _,biE (fun h=>?_) fun h=>?_⟩
    ·have h:decide (c.n.toNat<locs)=true:=zdv.symm.trans h;refine⟨_,zc hc (i:=1) rfl,biE (fun h3=>?_) fun h3=>?_⟩
     ·have h3:decide (c.thread=0)=true:=(u8d c.thread 0).symm.trans h3;exact⟨_,zc hc (i:=4) rfl,rb (by rw [h,h3];exact zbX),rfl⟩
     ·have h3:decide (c.thread=0)=false:=(u8d c.thread 0).symm.trans h3;exact⟨rb (by rw [h,h3];rfl),rfl⟩
    ·have h:decide (c.n.toNat<locs)=false:=zdv.symm.trans h;exact brF ⟨rb (by rw [h];rfl),rfl⟩
   have h2:¬ c.kind=2:=dF ((u8d c.kind 2).symm.trans h2);have g34:∀ (hk34:c.kind=3\/c.kind=4),zag threads locs (d+1) c=(jk c&&(decide (2<=c.kids.length)&&c.kids.all (zag threads locs d))):=fun hk34=>by
    rw [zas,Gw h0,Gw h1,Gw h2,Gx hk34]
   refine biE (fun h3=>?_) fun h3=>?_
   ·have h3':decide ((c.kind.toNat:Int)=3)=true:=h3;have h3:c.kind=3\/c.kind=4 := .inl (dT ((u8d c.kind 3).symm.trans h3));refine brE h3' (biE (fun h=>?_) fun h=>?_)
    ·have h:(!jk c)=true:=h;have h:jk c=false:=(by simpa using h);exact brT ⟨rb (by rw [g34 h3,h];rfl),rfl⟩
    ·have h:(!jk c)=false:=h;have h:jk c=true:=(by simpa using h);refine⟨_,zc hc (i:=4) rfl,biE (fun h4=>?_) fun h4=>?_⟩
     ·have h4:(c.kids.length:Int)<2:=dT h4;exact⟨rb (by rw [g34 h3,Uj (by omega)];simp),rfl⟩
     ·have h4:¬ (c.kids.length:Int)<2:=dF h4;exact⟨(),(cvE rfl rfl),.inl ⟨h3,h,by omega⟩,rfl⟩
   have h3:¬ c.kind=3:=dF ((u8d c.kind 3).symm.trans h3);refine biE (fun h4=>?_) fun h4=>?_
   ·have h3:c.kind=3\/c.kind=4 := .inr (dT ((u8d c.kind 4).symm.trans h4));refine biE (fun h=>?_) fun h=>?_
    ·have h:(!jk c)=true:=h;have h:jk c=false:=(by simpa using h);exact brT ⟨rb (by rw [g34 h3,h];rfl),rfl⟩
    ·have h:(!jk c)=false:=h;have h:jk c=true:=(by simpa using h);refine⟨_,zc hc (i:=4) rfl,biE (fun h4=>?_) fun h4=>?_⟩
     ·have h4:(c.kids.length:Int)<2:=dT h4;exact⟨rb (by rw [g34 h3,Uj (by omega)];simp),rfl⟩
     ·have h4:¬ (c.kids.length:Int)<2:=dF h4;exact⟨(),(cvE rfl rfl),.inl ⟨h3,h,by omega⟩,rfl⟩
   have h4:¬ c.kind=4:=dF ((u8d c.kind 4).symm.trans h4);have h34:¬ (c.kind=3\/c.kind=4):=fun h=>h.elim h3 h4;refine biE (fun h5=>?_) fun h5=>?_
   ·have h5:c.kind=5:=dT ((u8d c.kind 5).symm.trans h5);have e:zag threads locs (d+1) c=(jk c&&(decide (c.kids.length=1)&&c.kids.all (zag threads locs d))):=(by rw [zas,Gw h0,Gw h1,Gw h2,Gw h34,Gx h5]);refine biE (fun h=>?_) fun h=>?_
    ·have h:(!jk c)=true:=h;have h:jk c=false:=(by simpa using h);exact brT ⟨rb (by rw [e,h];rfl),rfl⟩
    ·have h:(!jk c)=false:=h;have h:jk c=true:=(by simpa using h);refine⟨_,zc hc (i:=4) rfl,biE (fun h4=>?_) fun h4=>?_⟩
     ·have h4:(!decide ((c.kids.length:Int)=1))=true:=h4;have h4:¬ (c.kids.length:Int)=1:=(by simpa using h4);exact⟨rb (by rw [e,Uj (by omega)];simp),rfl⟩
     ·have h4:(!decide ((c.kids.length:Int)=1))=false:=h4;have h4:(c.kids.length:Int)=1:=(by simpa using h4);exact⟨(),(cvE rfl rfl),.inr ⟨h5,h,by omega⟩,rfl⟩
   have h5:¬ c.kind=5:=dF ((u8d c.kind 5).symm.trans h5);exact⟨rb (by rw [zas,Gw h0,Gw h1,Gw h2,Gw h34,Gw h5]),rfl⟩
  rintro _ _ ⟨ha,rfl⟩;rw [zl0 ha];refine⟨_,zc hc (i:=4) rfl,?_⟩;obtain⟨hn,b1,o1,hp,hks⟩:=hk.inv;refine⟨Nat,fun k=>⟨[(0,.pointer (some ⟨b,o,none⟩)),(1,i64 threads),(2,i64 locs),(3,i64 (d+1:Nat)),(124,i64 c.kids.length),(125,i64 (k:Nat))],[]⟩,fun k X=>k<=c.kids.length/\(∀ x∈c.kids.take k,zag threads locs d x=true)/\w=X,fun k=>c.kids.length-k,0,
   (cvE rfl rfl),⟨Ge _,by simp,rfl⟩,?_⟩
  rintro k _ ⟨hk,hall,rfl⟩;dsimp only at hk hall ⊢;refine biE (fun hc2=>?_) fun hc2=>?_
  ·have hc2:(k:Int)<(c.kids.length:Int):=dT hc2;have hkl:k<c.kids.length:=by omega
   rcases hp with hp | rfl
   ·omega
   obtain⟨q,cq,hb1,hq,hkq⟩:=hks k hkl;refine⟨_,zc hc (i:=4) rfl,k,rfl,hkl,(d:Int),(zi (by omega)).trans (by omega),cmo (ih c.kids[k] b1 (o1+k*5) q cq (by omega) hb1 hq hkq) ?_⟩;rintro e _ ⟨rfl,rfl⟩;refine biE (fun h=>?_) fun h=>?_
   ·have h:(!zag threads locs d c.kids[k])=true:=h;refine⟨rb ?_,rfl⟩;symm;rw [KM];exact⟨c.kids[k],gM _,by simpa using h⟩
   ·have h:(!zag threads locs d c.kids[k])=false:=h;refine⟨_,(zi (by omega)).trans rfl,k+1,(cvE rfl rfl),⟨hkl,?_,rfl⟩,zdc (by omega)⟩;rw [tsg hkl];intro x hx;rcases QU.1 hx with hx | hx
    ·exact hall x hx
    ·simp only [KA] at hx;rw [hx];simpa using h
  ·have hc2:¬ (k:Int)<(c.kids.length:Int):=dF hc2;obtain rfl:k=c.kids.length:=by omega
   rw [Qx] at hall;exact⟨rb (Qk.2 hall).symm,rfl⟩
theorem zt9 {B threads locs cap:Nat} {p:OA} {c:Cnd} {w:Wd} (hB:B<=w.heap.size) (hk:KidsV B w p c.kids) :
  CB 192 #[.agg (zbe c p cap).toArray,i64 threads,i64 locs] w (.bool (zag threads locs 20 c)):=by
 refine zD 10 [.agg (zbe c p cap).toArray,i64 threads,i64 locs] Tryz.func192 ?_;have hb:Bw w (w.alloc (.cells (zbe c p cap).toArray 101)):=zba w _;have hn:=zA w (.cells (zbe c p cap).toArray 101);refine cmo (zkN (B:=w.heap.size+1) (by rw [wz];omega) 20 c w.heap.size 0 p cap (by omega) (by omega) (za hn) ((hk.kept (hb.mono hB)).wider (by omega))) ?_;rintro e _ ⟨rfl,rfl⟩;exact⟨rfl,hb⟩
theorem zkm {g:Nat} {p:Prg} {p1 p2 p3 p4:OA} {c1 c2 c3 c4 B:Nat} {w:Wd} (hc:zo w ⟨g,0,none⟩ (j0 p p1 c1 p2 c2 p3 c3 p4 c4)) (hg:g<w.heap.size) (h1:RowB zlG B w p1 p.locs) (hB:B<=w.heap.size) (hcap:p.locs.length<=c1) (hl:PrgLen p) :
  CB 184 #[At0 g] w (.bool (zeM p)):=by
 refine z6 56 [At0 g] (.s .p (.c .p .p)) Tryz.func184 ?_;have hbd:Bw w w.drew:=(Gh _ w).drew;have hcd:zo w.drew ⟨g,0,none⟩ (j0 p p1 c1 p2 c2 p3 c3 p4 c4):=zw hbd hc;have h1d:SlR zlG w.drew p1 p.locs:=(h1.below (hbd.mono hB)).slr (UT hB hbd.size);have hln:=hl.locs;refine⟨Unit,fun _=>⟨[(0,At0 g)],[]⟩,fun _ X=>(1<=p.locs.length/\p.locs.length<=6/\p.init.length=p.locs.length)/\X=w.drew,?_,?_⟩
 ·refine DrawE.ord [] [0,1,2,3,4,5,6,7,8,9,10,11,12,13,14,15,16,17,18,19,20,21,22,23,24,25,26] (by kernel_rfl) ⟨_,zc hcd (i:=1) rfl,biE (fun ha=>?_) fun ha=>?_⟩
  ·have ha:(p.locs.length:Int)<1:=dT ha;exact brT (brT ⟨rb (by unfold zeM;rw [Uj (by omega)];rfl),hbd⟩)
  ·have ha:¬ (p.locs.length:Int)<1:=dF ha;refine⟨_,zc hcd (i:=1) rfl,biE (fun hd=>?_) fun hd=>?_⟩
   ·have hd:(6:Int)<(p.locs.length:Int):=dT hd;exact brT ⟨rb (by unfold zeM;rw [Uj (p:=p.locs.length<=6) (by omega)];simp),hbd⟩
   ·have hd:¬ (6:Int)<(p.locs.length:Int):=dF hd;refine⟨_,zc hcd (i:=2) rfl,_,zc hcd (i:=1) rfl,biE (fun he=>?_) fun he=>?_⟩
    ·have he:(!decide ((p.init.length:Int)=(p.locs.length:Int)))=true:=he;have he:¬ (p.init.length:Int)=(p.locs.length:Int):=(by simpa using he);exact⟨rb (by unfold zeM;rw [Uj (p:=p.init.length=p.locs.length) (by omega)];simp),hbd⟩
    ·have he:(!decide ((p.init.length:Int)=(p.locs.length:Int)))=false:=he;have he:(p.init.length:Int)=(p.locs.length:Int):=(by simpa using he);exact⟨(),(cvE rfl rfl),⟨by omega,by omega,by omega⟩,rfl⟩
 rintro _ _ ⟨⟨l1,l6,li⟩,rfl⟩;have hdef:zeM p=zd0 [] p.locs:=by unfold zeM;rw [Ut l1,Ut l6,Ut li];rfl
 rw [hdef];refine⟨_,zc hcd (i:=1) rfl,?_⟩;refine⟨Nat,fun k=>⟨[(0,At0 g),(35,.slice p1 p.locs.length c1),(36,i64 p.locs.length),(37,i64 (k:Nat))],[]⟩,fun k X=>k<=p.locs.length/\zd0 (p.locs.take k) (p.locs.drop k)=zd0 [] p.locs/\X=w.drew,fun k=>p.locs.length-k,0,
  (cvE rfl rfl),⟨Ge _,rfl,rfl⟩,?_⟩
 rintro k _ ⟨hk,hna,rfl⟩;dsimp only at hk hna ⊢;refine biE (fun hc2=>?_) fun hc2=>?_
 ·have hc2:(k:Int)<(p.locs.length:Int):=dT hc2;have hkl:k<p.locs.length:=by omega
  obtain⟨b,o,rfl,hb,hat⟩:=h1d.at hkl;have hbk:Bw w w.drew:=hbd;refine⟨k,rfl,hkl,_,zc (hat k hkl) (i:=0) rfl,?_⟩;have hs:p.locs[k].length<=140737488351232:=hl.loc _ (gM _);have hstep:zd0 [] p.locs=(zeH p.locs[k]&&(!((p.locs.take k).any fun q=>decide (q=p.locs[k]))&&zd0 (p.locs.take (k+1)) (p.locs.drop (k+1)))):=by
   rw [<- hna,Jo hkl,tsg hkl];rfl
  refine cmo (zt1 p.locs[k] hs _) ?_;rintro e _ ⟨rfl,rfl⟩;refine biE (fun h=>?_) fun h=>?_
  ·have h:(!zeH p.locs[k])=true:=h;have h:zeH p.locs[k]=false:=by simpa using h
   exact brT ⟨rb (by rw [hstep,h];rfl),hbd⟩
  ·have h:(!zeH p.locs[k])=false:=h;have h:zeH p.locs[k]=true:=by simpa using h
   refine⟨_,zc hcd (i:=1) rfl,k,rfl,by omega,?_⟩;have hsub:SlR zlG w.drew (qS (some ⟨b,o,none⟩) c1 0 1) (p.locs.take k):=SlR.sub h1d (lo:=0) (hi:=k) (Ge _) (by omega) hcap;have htl:(p.locs.take k).length=k:=by rw [Qv];omega
   have hcn:=zmi (qS (some ⟨b,o,none⟩) c1 0 1) (c1-0) (p.locs.take k) p.locs[k] w.drew hsub (by omega);rw [htl] at hcn;refine cmo hcn ?_;rintro e _ ⟨rfl,rfl⟩;refine biE (fun h5=>?_) fun h5=>?_
   ·have h5:((p.locs.take k).any fun q=>decide (q=p.locs[k]))=true:=h5;exact⟨rb (by rw [hstep,h5];simp),hbd⟩
   ·have h5:((p.locs.take k).any fun q=>decide (q=p.locs[k]))=false:=h5;exact⟨_,(zi (by omega)).trans rfl,k+1,(cvE rfl rfl),⟨hkl,by rw [hstep,h,h5];rfl,rfl⟩,zdc (by omega)⟩
 ·have hc2:¬ (k:Int)<(p.locs.length:Int):=dF hc2;obtain rfl:k=p.locs.length:=by omega
  rw [Qn] at hna;exact⟨rb hna,hbd⟩
structure DmV (B:Nat) (X:Wd) (g bx:Nat) (p:Prg):Prop where
 hB:B<=X.heap.size
 hg:g<X.heap.size
 len:PrgLen p
 h:∃ p1 c1 p2 c2 p3 c3 p4 c4,zo X ⟨g,0,none⟩ (j0 p p1 c1 p2 c2 p3 c3 p4 c4)/\RowB zlG B X p1 p.locs/\RowB zO B X p2 p.init/\ThrsV B X p3 p.threads/\KidsV B X p4 p.cond.kids/\p.locs.length<=c1
 b:X.heap[bx]?=some (.cells #[At0 g] 169 (0,0))
 G:GlobC X
theorem DmV.below {B:Nat} {X Y:Wd} {g bx:Nat} {p:Prg} (h:DmV B X g bx p) (hb:Bw X Y):DmV B Y g bx p:=by
 obtain⟨p1,c1,p2,c2,p3,c3,p4,c4,h0,h1,h2,h3,h4,h5⟩:=h.h;have hb':=hb.mono h.hB;exact⟨UT h.hB hb.size,nL h.hg hb.size,h.len,⟨p1,c1,p2,c2,p3,c3,p4,c4,zw hb h0,h1.below hb',h2.below hb',h3.below hb',h4.kept hb',h5⟩,zb hb h.b,h.G.below hb⟩
def zlp (sel:Bool) (bx:Nat):Value:=match sel with
 | false => .func (.func 186) #[] #[]
 | true => .func (.func 188) #[] #[.pointer (some ⟨bx,0,none⟩)]
def zb5 (sel:Bool) (p:Prg) (l:List InsD):Bool:=match sel with
 | false=>decide (l.length<=12)
 | true=>jy l p.locs.length
section
variable {B g bx:Nat} {p:Prg} {w:Wd}
theorem zqW (q:OA) (cap:Nat) (l:List InsD):Calls PG 186 #[.slice q l.length cap] w fun e w'=>e = .returned (.bool (decide (l.length<=12)))/\w=w':=by
 refine zD 6 [.slice q l.length cap] Tryz.func186 ?_;refine⟨rb ?_,rfl⟩;rw [QH];show ((l.length:Int)<=12)↔_;omega
theorem zoI (h:DmV B w g bx p) {q:OA} {cap:Nat} {l:List InsD} (hl:SlR qr w q l) (hn:l.length<=140737488351232) :
  CB 188 #[.slice q l.length cap,At0 bx] w (.bool (jy l p.locs.length)):=by
 refine zD 11 [.slice q l.length cap,At0 bx] Tryz.func188 ?_;obtain⟨p1,c1,p2,c2,p3,c3,p4,c4,h0,h1,h2,h3,h4,h5⟩:=h.h;refine⟨_,zc (za h.b) (i:=0) rfl,_,zc h0 (i:=1) rfl,cmo (zk0 hl h.G hn) ?_⟩;rintro e V ⟨rfl,hb⟩;exact⟨rfl,hb⟩
theorem zmW (sel:Bool) (h:DmV B w g bx p):CB 180 #[zlp sel bx,At0 bx] w (.bool (p.threads.all (zb5 sel p))):=by
 refine zD 20 [zlp sel bx,At0 bx] Tryz.func180 ?_;obtain⟨p1,c1,p2,c2,p3,c3,p4,c4,h0,h1,h2,h3,h4,h5⟩:=h.h;obtain⟨xs,hxs,hr,hx⟩:=h3;have hlen:p.threads.length=xs.length:=by rw [<- hxs,QQ]
 have hln:=h.len.threads;refine⟨_,zc (za h.b) (i:=0) rfl,_,zc h0 (i:=3) rfl,?_⟩;refine⟨Nat,fun k=>⟨[(0,zlp sel bx),(1,At0 bx),(9,.slice p3 p.threads.length c3),(10,i64 p.threads.length),(11,i64 (k:Nat))],[]⟩,fun k X=>k<=p.threads.length/\(∀ l∈p.threads.take k,zb5 sel p l=true)/\Bw w X,fun k=>p.threads.length-k,0,
  (cvE rfl rfl),⟨Ge _,by simp,Gh _ _⟩,?_⟩
 rintro k X ⟨hk,hall,hbX⟩;dsimp only at hk hall ⊢;have hX:=h.below hbX;refine biE (fun hc=>?_) fun hc=>?_
 ·have hc:(k:Int)<(p.threads.length:Int):=dT hc;have hkl:k<p.threads.length:=by omega
  have hkx:k<xs.length:=by omega
  have e1:p.threads[k]=xs[k].1:=by simp [<- hxs]
  obtain⟨b,o,hp3,hat⟩:=hr.get;rcases hp3 with hp3 | rfl
  ·omega
  refine⟨k,rfl,hkl,?_⟩;obtain⟨hb1,ha1⟩:=hat k hkx;refine⟨_,zc (qT (hbX.mono h.hB) hb1 ha1) (i:=0) rfl,?_⟩;have zb7:SlR qr X xs[k].2.1 xs[k].1:=((hx _ (gM hkx)).below (hbX.mono h.hB)).slr hX.hB;have hln1:xs[k].1.length<=140737488351232:=by rw [<- e1];exact h.len.thread _ (gM _)
  have hfin:zb5 sel p xs[k].1=false->p.threads.all (zb5 sel p)=false:=fun hf=>by
   rw [KM];exact⟨p.threads[k],gM _,by rw [e1,hf];simp⟩
  have hgo:zb5 sel p xs[k].1=true->∀ l∈p.threads.take (k+1),zb5 sel p l=true:=fun ht=>by
   rw [tsg hkl];intro x hx;rcases QU.1 hx with hx | hx
   ·exact hall x hx
   ·simp only [KA] at hx;rw [hx,e1];exact ht
  cases sel with
  | false =>
   refine cmo (zqW xs[k].2.1 xs[k].2.2 xs[k].1) ?_;rintro e _ ⟨rfl,rfl⟩;refine biE (fun hb=>?_) fun hb=>?_
   ·have hb:(!zb5 false p xs[k].1)=true:=hb;exact⟨rb (hfin (by simpa using hb)).symm,hbX⟩
   ·have hb:(!zb5 false p xs[k].1)=false:=hb;exact⟨_,(zi (by omega)).trans rfl,k+1,(cvE rfl rfl),⟨hkl,hgo (by simpa using hb),hbX⟩,zdc (by omega)⟩
  | true =>
   refine cmo (zoI hX (cap:=xs[k].2.2) zb7 hln1) ?_;rintro e Y ⟨rfl,hbY⟩;refine biE (fun hb=>?_) fun hb=>?_
   ·have hb:(!zb5 true p xs[k].1)=true:=hb;exact⟨rb (hfin (by simpa using hb)).symm,(zst hbX hbY)⟩
   ·have hb:(!zb5 true p xs[k].1)=false:=hb;exact⟨_,(zi (by omega)).trans rfl,k+1,(cvE rfl rfl),⟨hkl,hgo (by simpa using hb),(zst hbX hbY)⟩,zdc (by omega)⟩
 ·have hc:¬ (k:Int)<(p.threads.length:Int):=dF hc;obtain rfl:k=p.threads.length:=by omega
  rw [Qx] at hall;exact⟨rb (Qk.2 hall).symm,hbX⟩
theorem ztH (h:DmV B w g bx p):CB 181 #[At0 bx] w (.bool (zdx p.name)):=by
 refine zD 7 [At0 bx] Tryz.func181 ?_;obtain⟨p1,c1,p2,c2,p3,c3,p4,c4,h0,h1,h2,h3,h4,h5⟩:=h.h;refine⟨_,zc (za h.b) (i:=0) rfl,_,zc h0 (i:=0) rfl,cmo (zpG p.name h.len.name w) ?_⟩;rintro e V ⟨rfl,hb⟩;exact⟨rfl,hb⟩
theorem ztG (h:DmV B w g bx p):CB 183 #[At0 bx] w (.bool (zeM p)):=by
 refine zD 4 [At0 bx] Tryz.func183 ?_;obtain⟨p1,c1,p2,c2,p3,c3,p4,c4,h0,h1,h2,h3,h4,h5⟩:=h.h;refine⟨_,zc (za h.b) (i:=0) rfl,cmo (zkm h0 h.hg h1 h.hB h5 h.len) ?_⟩;rintro e V ⟨rfl,hb⟩;exact⟨rfl,hb⟩
def evV (bx:Nat):Value := .func (.func 180) #[] #[At0 bx]
theorem ztF (h:DmV B w g bx p) {ev:Nat} (hev:w.heap[ev]?=some (.cells #[evV bx] 276 (0,0))):CB 185 #[At0 bx,At0 ev] w (.bool (decide (1<=p.threads.length)&&(decide (p.threads.length<=4)&&p.threads.all fun l=>decide (l.length<=12)))):=by
 refine zD 21 [At0 bx,At0 ev] Tryz.func185 ?_;obtain⟨p1,c1,p2,c2,p3,c3,p4,c4,h0,h1,h2,h3,h4,h5⟩:=h.h;refine⟨_,zc (za h.b) (i:=0) rfl,_,zc h0 (i:=3) rfl,biE (fun ha=>?_) fun ha=>?_⟩
 ·have ha:(1:Int)<=(p.threads.length:Int):=dT ha;refine⟨_,zc (za h.b) (i:=0) rfl,_,zc h0 (i:=3) rfl,biE (fun hb=>?_) fun hb=>?_⟩
  ·have hb:(p.threads.length:Int)<=4:=dT hb;refine⟨_,zc (za hev) (i:=0) rfl,cmo (zmW false h) ?_⟩;rintro e V ⟨rfl,hbV⟩;refine⟨rb ?_,hbV⟩;rw [Ut (by omega),Ut (by omega),Uz,Uz];rfl
  ·have hb:¬ (p.threads.length:Int)<=4:=dF hb;exact⟨rb (by rw [Uj (p:=p.threads.length<=4) (by omega)];simp),Gh _ _⟩
 ·have ha:¬ (1:Int)<=(p.threads.length:Int):=dF ha;exact brF ⟨rb (by rw [Uj (p:=1<=p.threads.length) (by omega)];rfl),Gh _ _⟩
theorem ztE (h:DmV B w g bx p) {ev:Nat} (hev:w.heap[ev]?=some (.cells #[evV bx] 276 (0,0))):CB 187 #[At0 ev,At0 bx] w (.bool (p.threads.all fun l=>jy l p.locs.length)):=by
 refine zD 6 [At0 ev,At0 bx] Tryz.func187 ?_;refine⟨_,zc (za hev) (i:=0) rfl,cmo (zmW true h) ?_⟩;rintro e V ⟨rfl,hbV⟩;exact⟨rfl,hbV⟩
theorem ztD (h:DmV B w g bx p):CB 190 #[At0 bx] w (.bool (decide (p.ask=1)||(decide (p.ask=2)||decide (p.ask=3)))):=by
 refine zD 21 [At0 bx] Tryz.func190 ?_;obtain⟨p1,c1,p2,c2,p3,c3,p4,c4,h0,h1,h2,h3,h4,h5⟩:=h.h;refine⟨_,zc (za h.b) (i:=0) rfl,_,zc h0 (i:=4) rfl,biE (fun ha=>?_) fun ha=>?_⟩
 ·have ha:decide (p.ask=1)=true:=(u8d p.ask 1).symm.trans ha;exact brT ⟨rb (by rw [ha];rfl),Gh _ _⟩
 ·have ha:decide (p.ask=1)=false:=(u8d p.ask 1).symm.trans ha;refine⟨_,zc (za h.b) (i:=0) rfl,_,zc h0 (i:=4) rfl,biE (fun hb=>?_) fun hb=>?_⟩
  ·have hb:decide (p.ask=2)=true:=(u8d p.ask 2).symm.trans hb;exact⟨rb (by rw [ha,hb];rfl),Gh _ _⟩
  ·have hb:decide (p.ask=2)=false:=(u8d p.ask 2).symm.trans hb;exact⟨_,zc (za h.b) (i:=0) rfl,_,zc h0 (i:=4) rfl,rb (by rw [ha,hb];exact u8d p.ask 3),Gh _ _⟩
theorem ztC (h:DmV B w g bx p):CB 191 #[At0 bx] w (.bool (zag p.threads.length p.locs.length 20 p.cond)):=by
 refine zD 17 [At0 bx] Tryz.func191 ?_;have hbd:Bw w w.drew:=(Gh _ w).drew;have hd:=h.below hbd;obtain⟨p1,c1,p2,c2,p3,c3,p4,c4,h0,h1,h2,h3,h4,h5⟩:=hd.h;refine DrawE.ord [] [0,1,2,3,4,5,6,7,8,9,10,11,12,13,14,15] (by kernel_rfl) ⟨_,zc (za hd.b) (i:=0) rfl,zbe p.cond p4 c4,rfl,zM (n:=5) (m:=5) h0,hd.hg,_,zc (za hd.b) (i:=0) rfl,_,zc h0 (i:=3) rfl,_,zc (za hd.b) (i:=0) rfl,_,zc h0 (i:=1) rfl,cmo (zt9 hd.hB h4) ?_⟩;rintro e V ⟨rfl,hbV⟩;exact⟨hbV,rfl,hbd.trans hbV⟩
def ztB (bx ev:Nat):List Value:=[i64 70,.func (.func 181) #[] #[At0 bx],i64 71,.func (.func 183) #[] #[At0 bx],
 i64 72,.func (.func 185) #[] #[At0 bx,At0 ev],i64 73,.func (.func 187) #[] #[At0 ev,At0 bx],
 i64 75,.func (.func 190) #[] #[At0 bx],i64 74,.func (.func 191) #[] #[At0 bx]]
theorem zn9 {g:Nat} {w:Wd}:Calls PG 134 #[At0 g] w fun e w'=>e = .returned (.slice (some ⟨w.heap.size+2,0,none⟩) 6 6) /\
  w'.heap[w.heap.size]?=some (.cells #[At0 g] 169 (0,0))/\w'.heap[w.heap.size+1]?=some (.cells #[evV w.heap.size] 276 (0,0)) /\
  w'.heap[w.heap.size+2]?=some (.cells (ztB w.heap.size (w.heap.size+1)).toArray 228 (0,0))/\w'.heap.size=w.heap.size+3/\Bw w w':=by
 refine zD 18 [At0 g] Tryz.func134 ?_;have hs:=wz w (.cells (At0 g).cells 169);refine zk (X:=w.alloc (.cells (At0 g).cells 169)) (v:=evV w.heap.size) zvQ rfl rfl rfl fun V hbV fV sV=>?_;generalize hev:(w.alloc (.cells (At0 g).cells 169)).heap.size=ev at *;refine⟨[i64 70,.func (.func 181) #[] #[.pointer (some ⟨w.heap.size,0,none⟩)]],rfl,[i64 71,.func (.func 183) #[] #[.pointer (some ⟨w.heap.size,0,none⟩)]],rfl,[i64 72,.func (.func 185) #[] #[.pointer (some ⟨w.heap.size,0,none⟩),At0 ev]],rfl,[i64 73,.func (.func 187) #[] #[At0 ev,.pointer (some ⟨w.heap.size,0,none⟩)]],rfl,[i64 75,.func (.func 190) #[] #[.pointer (some ⟨w.heap.size,0,none⟩)]],rfl,[i64 74,.func (.func 191) #[] #[.pointer (some ⟨w.heap.size,0,none⟩)]],rfl,⟨by decide,by decide,rfl⟩,ztB w.heap.size ev,rfl,?_⟩;subst hs;refine⟨?_,?_,?_,?_,?_,?_⟩
 ·rw [sV];rfl
 ·exact qy _ (zb (show Below _ _ _ from hev▸hbV) (zA w _))
 ·exact qy _ fV
 ·rw [show w.heap.size+2=V.heap.size from sV.symm];exact zA _ _
 ·rw [wz,sV]
 ·exact (((zba w _)).trans (hbV.mono (by omega))).alloc (by omega) _
end
def okL (p:Prg):List Bool:=[zdx p.name,zeM p,decide (1<=p.threads.length)&&(decide (p.threads.length<=4)&&p.threads.all fun l=>decide (l.length<=12)),p.threads.all (fun l=>jy l p.locs.length),
 decide (p.ask=1)||(decide (p.ask=2)||decide (p.ask=3)),zag p.threads.length p.locs.length 20 p.cond]
theorem zmJ {p:Prg}:zgR p=(okL p).all id:=by
 unfold zgR okL;simp only [UC,List.all_nil,Bool.and_true,id]
theorem znb {B:Nat} {p:Prg} {vs:List Value} {w:Wd} (hB:B<=w.heap.size) (hp:PrgV B w vs p) (hG:GlobC w) :
  Calls PG 85 #[.agg vs.toArray] w fun e w'=>∃ n:Int,e = .returned (i64 n)/\(n=0↔zgR p=true)/\Bw w w':=by
 obtain⟨hl,p1,c1,p2,c2,p3,c3,p4,c4,rfl,h1,h2,h3,h4,h5⟩:=hp;refine zD 18 [.agg (j0 p p1 c1 p2 c2 p3 c3 p4 c4).toArray] Tryz.func85 ?_;obtain⟨L,hL⟩:=nm (w.heap.size);have hn:=zA w (.cells (Value.agg (j0 p p1 c1 p2 c2 p3 c3 p4 c4).toArray).cells 103);have hs:=wz w (.cells (Value.agg (j0 p p1 c1 p2 c2 p3 c3 p4 c4).toArray).cells 103);have hb:Bw w (w.alloc (.cells (Value.agg (j0 p p1 c1 p2 c2 p3 c3 p4 c4).toArray).cells 103)):=zba w _;refine cmo zn9 ?_;rintro e V ⟨rfl,hbx,hev,hsl,hsz,hbV⟩;have hbw:Bw w V:=zst hb hbV;have p1':some (Value.slice (some ⟨(w.alloc (.cells (Value.agg (j0 p p1 c1 p2 c2 p3 c3 p4 c4).toArray).cells 103)).heap.size+2,0,none⟩) 6 6)=some (Value.slice (some ⟨L+3,0,none⟩) 6 6):=by rw [hs,hL]
 have hD:DmV B V L (L+1) p:=by
  have hbB:=hbw.mono hB;rw [hs,<- hL] at hbx;refine⟨UT hB hbw.size,by omega,hl,⟨p1,c1,p2,c2,p3,c3,p4,c4,za (zb hbV (hL▸hn)),h1.below hbB,h2.below hbB,h3.below hbB,h4.kept hbB,h5⟩,hbx,hG.below hbw⟩
 rw [hs,<- hL] at hev hsl;clear hn hs hb hbx hbV hsz;refine⟨Nat,fun j=>⟨[(5,.slice (some ⟨L+3,0,none⟩) 6 6),(6,i64 6),(7,i64 (j:Nat))],[]⟩,
  fun j X=>j<=6/\(∀ i,i<j->(okL p)[i]?=some true)/\DmV B X L (L+1) p/\X.heap[L+2]?=some (.cells #[evV (L+1)] 276 (0,0))/\X.heap[L+3]?=some (.cells (ztB (L+1) (L+2)).toArray 228 (0,0))/\Bw w X,fun j=>6-j,0,
  ⟨.cons p1' (.cons rfl (.cons rfl .nil)),rfl⟩,⟨Ge _,fun i hi=>by omega,hD,hev,hsl,hbw⟩,?_⟩
 clear hD hev hsl hbw p1';rintro j X ⟨hj,hpre,hD,hev,hsl,hbw⟩;dsimp only at hj hpre ⊢;refine biE (fun hc=>?_) fun hc=>?_
 ·have hc:(j:Int)<6:=dT hc;have hno:∀ {i:Nat},(okL p)[i]?=some false->zgR p=false:=fun h=>by rw [zmJ];exact zqs h
  have hcs:j=0\/j=1\/j=2\/j=3\/j=4\/j=5:=by omega
  rcases hcs with rfl | rfl | rfl | rfl | rfl | rfl
  ·refine⟨0,rfl,by decide,?_⟩;refine⟨[i64 70,.func (.func 181) #[] #[At0 (L+1)]],rfl,zM (n:=0) (m:=2) (za hsl),hlt hsl,zk (X:=X) (v := .agg [i64 70,.func (.func 181) #[] #[At0 (L+1)]].toArray) zn0 rfl rfl rfl fun Y hbY fY sY=>?_⟩;have hY:=hD.below hbY;have hevY:=zb hbY hev;have hslY:=zb hbY hsl;refine⟨_,zc (za fY) (i:=1) rfl,cmo (ztH hY) ?_⟩;rintro e W ⟨rfl,hbW⟩;have hbX:Bw w W:=((zst hbw hbY)).trans (hbW.mono (UT hbw.size hbY.size));refine biE (fun hb=>?_) fun hb=>?_
   ·have hb:(!((okL p)[0]'(by show 0<6;decide)))=true:=hb;have hb:(okL p)[0]?=some false:=(by rw [gE (by show 0<6;decide)];exact Gq some (by rw [<- UK ((okL p)[0]'(by show 0<6;decide)),hb];rfl));exact⟨_,zc (za (zb hbW fY)) (i:=0) rfl,70,rfl,⟨fun h=>Gy h (by decide),fun h=>by rw [hno hb] at h;cases h⟩,hbX⟩
   ·have hb:(!((okL p)[0]'(by show 0<6;decide)))=false:=hb;have hb:(okL p)[0]?=some true:=(by rw [gE (by show 0<6;decide)];exact Gq some (by rw [<- UK ((okL p)[0]'(by show 0<6;decide)),hb];rfl));refine⟨_,(zi (by omega)).trans rfl,1,(cvE rfl rfl),⟨by omega,fun i hi=>?_,hY.below hbW,zb hbW hevY,zb hbW hslY,hbX⟩,by decide⟩;by_cases hik:i=0
    ·rw [hik];exact hb
    ·exact hpre i (by omega)
  ·refine⟨1,rfl,by decide,?_⟩;refine⟨[i64 71,.func (.func 183) #[] #[At0 (L+1)]],rfl,zM (n:=2) (m:=2) (za hsl),hlt hsl,zk (X:=X) (v := .agg [i64 71,.func (.func 183) #[] #[At0 (L+1)]].toArray) zn0 rfl rfl rfl fun Y hbY fY sY=>?_⟩;have hY:=hD.below hbY;have hevY:=zb hbY hev;have hslY:=zb hbY hsl;refine⟨_,zc (za fY) (i:=1) rfl,cmo (ztG hY) ?_⟩;rintro e W ⟨rfl,hbW⟩;have hbX:Bw w W:=((zst hbw hbY)).trans (hbW.mono (UT hbw.size hbY.size));refine biE (fun hb=>?_) fun hb=>?_
   ·have hb:(!((okL p)[1]'(by show 1<6;decide)))=true:=hb;have hb:(okL p)[1]?=some false:=(by rw [gE (by show 1<6;decide)];exact Gq some (by rw [<- UK ((okL p)[1]'(by show 1<6;decide)),hb];rfl));exact⟨_,zc (za (zb hbW fY)) (i:=0) rfl,71,rfl,⟨fun h=>Gy h (by decide),fun h=>by rw [hno hb] at h;cases h⟩,hbX⟩
   ·have hb:(!((okL p)[1]'(by show 1<6;decide)))=false:=hb;have hb:(okL p)[1]?=some true:=(by rw [gE (by show 1<6;decide)];exact Gq some (by rw [<- UK ((okL p)[1]'(by show 1<6;decide)),hb];rfl));refine⟨_,(zi (by omega)).trans rfl,2,(cvE rfl rfl),⟨by omega,fun i hi=>?_,hY.below hbW,zb hbW hevY,zb hbW hslY,hbX⟩,by decide⟩;by_cases hik:i=1
    ·rw [hik];exact hb
    ·exact hpre i (by omega)
  ·refine⟨2,rfl,by decide,?_⟩;refine⟨[i64 72,.func (.func 185) #[] #[At0 (L+1),At0 (L+2)]],rfl,zM (n:=4) (m:=2) (za hsl),hlt hsl,zk (X:=X) (v := .agg [i64 72,.func (.func 185) #[] #[At0 (L+1),At0 (L+2)]].toArray) zn0 rfl rfl rfl fun Y hbY fY sY=>?_⟩;have hY:=hD.below hbY;have hevY:=zb hbY hev;have hslY:=zb hbY hsl;refine⟨_,zc (za fY) (i:=1) rfl,cmo (ztF hY hevY) ?_⟩;rintro e W ⟨rfl,hbW⟩;have hbX:Bw w W:=((zst hbw hbY)).trans (hbW.mono (UT hbw.size hbY.size));refine biE (fun hb=>?_) fun hb=>?_
   ·have hb:(!((okL p)[2]'(by show 2<6;decide)))=true:=hb;have hb:(okL p)[2]?=some false:=(by rw [gE (by show 2<6;decide)];exact Gq some (by rw [<- UK ((okL p)[2]'(by show 2<6;decide)),hb];rfl));exact⟨_,zc (za (zb hbW fY)) (i:=0) rfl,72,rfl,⟨fun h=>Gy h (by decide),fun h=>by rw [hno hb] at h;cases h⟩,hbX⟩
   ·have hb:(!((okL p)[2]'(by show 2<6;decide)))=false:=hb;have hb:(okL p)[2]?=some true:=(by rw [gE (by show 2<6;decide)];exact Gq some (by rw [<- UK ((okL p)[2]'(by show 2<6;decide)),hb];rfl));refine⟨_,(zi (by omega)).trans rfl,3,(cvE rfl rfl),⟨by omega,fun i hi=>?_,hY.below hbW,zb hbW hevY,zb hbW hslY,hbX⟩,by decide⟩;by_cases hik:i=2
    ·rw [hik];exact hb
    ·exact hpre i (by omega)
  ·refine⟨3,rfl,by decide,?_⟩;refine⟨[i64 73,.func (.func 187) #[] #[At0 (L+2),At0 (L+1)]],rfl,zM (n:=6) (m:=2) (za hsl),hlt hsl,zk (X:=X) (v := .agg [i64 73,.func (.func 187) #[] #[At0 (L+2),At0 (L+1)]].toArray) zn0 rfl rfl rfl fun Y hbY fY sY=>?_⟩;have hY:=hD.below hbY;have hevY:=zb hbY hev;have hslY:=zb hbY hsl;refine⟨_,zc (za fY) (i:=1) rfl,cmo (ztE hY hevY) ?_⟩;rintro e W ⟨rfl,hbW⟩;have hbX:Bw w W:=((zst hbw hbY)).trans (hbW.mono (UT hbw.size hbY.size));refine biE (fun hb=>?_) fun hb=>?_
   ·have hb:(!((okL p)[3]'(by show 3<6;decide)))=true:=hb;have hb:(okL p)[3]?=some false:=(by rw [gE (by show 3<6;decide)];exact Gq some (by rw [<- UK ((okL p)[3]'(by show 3<6;decide)),hb];rfl));exact⟨_,zc (za (zb hbW fY)) (i:=0) rfl,73,rfl,⟨fun h=>Gy h (by decide),fun h=>by rw [hno hb] at h;cases h⟩,hbX⟩
   ·have hb:(!((okL p)[3]'(by show 3<6;decide)))=false:=hb;have hb:(okL p)[3]?=some true:=(by rw [gE (by show 3<6;decide)];exact Gq some (by rw [<- UK ((okL p)[3]'(by show 3<6;decide)),hb];rfl));refine⟨_,(zi (by omega)).trans rfl,4,(cvE rfl rfl),⟨by omega,fun i hi=>?_,hY.below hbW,zb hbW hevY,zb hbW hslY,hbX⟩,by decide⟩;by_cases hik:i=3
    ·rw [hik];exact hb
    ·exact hpre i (by omega)
  ·refine⟨4,rfl,by decide,?_⟩;refine⟨[i64 75,.func (.func 190) #[] #[At0 (L+1)]],rfl,zM (n:=8) (m:=2) (za hsl),hlt hsl,zk (X:=X) (v := .agg [i64 75,.func (.func 190) #[] #[At0 (L+1)]].toArray) zn0 rfl rfl rfl fun Y hbY fY sY=>?_⟩;have hY:=hD.below hbY;have hevY:=zb hbY hev;have hslY:=zb hbY hsl;refine⟨_,zc (za fY) (i:=1) rfl,cmo (ztD hY) ?_⟩;rintro e W ⟨rfl,hbW⟩;have hbX:Bw w W:=((zst hbw hbY)).trans (hbW.mono (UT hbw.size hbY.size));refine biE (fun hb=>?_) fun hb=>?_
   ·have hb:(!((okL p)[4]'(by show 4<6;decide)))=true:=hb;have hb:(okL p)[4]?=some false:=(by rw [gE (by show 4<6;decide)];exact Gq some (by rw [<- UK ((okL p)[4]'(by show 4<6;decide)),hb];rfl));exact⟨_,zc (za (zb hbW fY)) (i:=0) rfl,75,rfl,⟨fun h=>Gy h (by decide),fun h=>by rw [hno hb] at h;cases h⟩,hbX⟩
   ·have hb:(!((okL p)[4]'(by show 4<6;decide)))=false:=hb;have hb:(okL p)[4]?=some true:=(by rw [gE (by show 4<6;decide)];exact Gq some (by rw [<- UK ((okL p)[4]'(by show 4<6;decide)),hb];rfl));refine⟨_,(zi (by omega)).trans rfl,5,(cvE rfl rfl),⟨by omega,fun i hi=>?_,hY.below hbW,zb hbW hevY,zb hbW hslY,hbX⟩,by decide⟩;by_cases hik:i=4
    ·rw [hik];exact hb
    ·exact hpre i (by omega)
  ·refine⟨5,rfl,by decide,?_⟩;refine⟨[i64 74,.func (.func 191) #[] #[At0 (L+1)]],rfl,zM (n:=10) (m:=2) (za hsl),hlt hsl,zk (X:=X) (v := .agg [i64 74,.func (.func 191) #[] #[At0 (L+1)]].toArray) zn0 rfl rfl rfl fun Y hbY fY sY=>?_⟩;have hY:=hD.below hbY;have hevY:=zb hbY hev;have hslY:=zb hbY hsl;refine⟨_,zc (za fY) (i:=1) rfl,cmo (ztC hY) ?_⟩;rintro e W ⟨rfl,hbW⟩;have hbX:Bw w W:=((zst hbw hbY)).trans (hbW.mono (UT hbw.size hbY.size));refine biE (fun hb=>?_) fun hb=>?_
   ·have hb:(!((okL p)[5]'(by show 5<6;decide)))=true:=hb;have hb:(okL p)[5]?=some false:=(by rw [gE (by show 5<6;decide)];exact Gq some (by rw [<- UK ((okL p)[5]'(by show 5<6;decide)),hb];rfl));exact⟨_,zc (za (zb hbW fY)) (i:=0) rfl,74,rfl,⟨fun h=>Gy h (by decide),fun h=>by rw [hno hb] at h;cases h⟩,hbX⟩
   ·have hb:(!((okL p)[5]'(by show 5<6;decide)))=false:=hb;have hb:(okL p)[5]?=some true:=(by rw [gE (by show 5<6;decide)];exact Gq some (by rw [<- UK ((okL p)[5]'(by show 5<6;decide)),hb];rfl));refine⟨_,(zi (by omega)).trans rfl,6,(cvE rfl rfl),⟨by omega,fun i hi=>?_,hY.below hbW,zb hbW hevY,zb hbW hslY,hbX⟩,by decide⟩;by_cases hik:i=5
    ·rw [hik];exact hb
    ·exact hpre i (by omega)
 ·have hc:¬ (j:Int)<6:=dF hc;obtain rfl:j=6:=by omega
  exact⟨0,rfl,⟨fun _=>by rw [zmJ];exact zkW hpre rfl,fun _=>rfl⟩,hbw⟩
def ThrsW (B:Nat) (w:Wd) (p:OA) (l:List (List InsD)):Prop:=∃ xs:List zse,xs.map (·.1)=l/\RowB zsQ B w p xs/\∀ x∈xs,RowB qr B w x.2.1 x.1/\∀ a,x.2.1=some a->a.block<B
structure PrgX (B:Nat) (w:Wd) (vs:List Value) (p:Prg):Prop where
 v:PrgV B w vs p
 th:∃ p3 c3,vs[3]?=some (.slice p3 p.threads.length c3)/\ThrsW B w p3 p.threads
 init:∃ p2 c2,vs[2]?=some (.slice p2 p.init.length c2)/\RowB zO B w p2 p.init
theorem ThrsW.below {B:Nat} {w w2:Wd} {p:OA} {l:List (List InsD)} (h:ThrsW B w p l) (hb:Below B w w2):ThrsW B w2 p l:=by
 obtain⟨xs,h1,h2,h3⟩:=h;exact⟨xs,h1,h2.below hb,fun x hx=>⟨(h3 x hx).1.below hb,(h3 x hx).2⟩⟩
theorem PrgX.below {B:Nat} {w w2:Wd} {vs:List Value} {p:Prg} (h:PrgX B w vs p) (hb:Below B w w2):PrgX B w2 vs p:=by
 obtain⟨h1,⟨p3,c3,h2,h3⟩,⟨p2,c2,h4,h5⟩⟩:=h;exact⟨h1.below hb,⟨p3,c3,h2,h3.below hb⟩,⟨p2,c2,h4,h5.below hb⟩⟩
def zgB (threads:List (List InsD)) (vals:List UInt8):Bool :=
 decide (1<=vals.length)&&(decide (vals.length<=12)&&((threads.all fun l=>decide ((zaf l vals).length<=4096))&&(decide ((vals++threads.flatMap fun l=>j6 (zaf l vals)).length<=12)&&zdV (vals++threads.flatMap fun l=>j6 (zaf l vals)))))
def zeD (threads:List (List InsD)) (vals:List UInt8):List UInt8:=ded (vals++threads.flatMap fun l=>j6 (zaf l vals))
def zhT (threads:List (List InsD)):Nat->List UInt8->Option (List UInt8)
 | 0,_=>none
 | n+1,vals=>if zgB threads vals=true then (if (zeD threads vals).length=vals.length then some vals else zhT threads n (zeD threads vals)) else none
structure RunK (l:List InsD) (R:RunD):Prop where
 m:R.many<=R.pc
 p:R.pc<=l.length
 d:∀ i,R.deps i<2^32
 c:R.ctl<2^32
 s:∀ i,R.data i<2^32/\R.ctrl i<2^32/\R.att i<2^32
theorem zur {n:Nat} (h:n<32):2^n<2^32:=Kc (by decide) h
theorem zla {f:Nat->Nat} {b:Nat} (h:∀ i,f i<b) {k v:Nat} (hv:v<b):∀ i,upd f k v i<b:=fun i=>by
 by_cases e:i=k
 ·rw [e,qZ];exact hv
 ·rw [zaA _ _ e];exact h i
theorem RunK.emit {l:List InsD} {R:RunD} (h:RunK l R) {k a v m:UInt8} {d:Nat} (hd:d<2^32):(∀ i,(zbZ R k a v m d).deps i<2^32)/\(zbZ R k a v m d).ctl<2^32/\∀ i,(zbZ R k a v m d).data i<2^32/\(zbZ R k a v m d).ctrl i<2^32/\(zbZ R k a v m d).att i<2^32:=by
 unfold zbZ;exact⟨h.d,h.c,fun i=>⟨zla (fun i=>(h.s i).1) hd i,zla (fun i=>(h.s i).2.1) h.c i,(h.s i).2.2⟩⟩
theorem RunK.exec {l:List InsD} {R:RunD} {x:InsD} {v:UInt8} (h:RunK l R) (hx:zdI x) (hp:R.pc<l.length) (h12:l.length<=12):RunK l (qk R x v):=by
 obtain⟨e1,e2⟩:=zjh (R:=R) (v:=v) hx;have hm:=h.m;have hb:=zur (n:=R.many) (by omega);have hs:(∀ i,(qk R x v).deps i<2^32)/\(qk R x v).ctl<2^32/\∀ i,(qk R x v).data i<2^32/\(qk R x v).ctrl i<2^32/\(qk R x v).att i<2^32:=by
  unfold qk zn8;rcases hx with ⟨ho,_⟩ | ⟨ho,_⟩ | ho
  ·rw [Gx ho];have:=h.emit (k:=1) (a:=x.loc) (v:=v) (m:=x.mode) (d:=0) (by decide);exact⟨zla this.1 hb,this.2.1,this.2.2⟩
  ·rw [Gw (by rw [ho];decide),Gx ho];refine h.emit (k:=2) (a:=x.loc) (v:=(za0 x.ar x.an R).1) (m:=x.mode) ?_;unfold za0
   split
   ·exact h.d _
   ·exact (by decide:0<2^32)
  ·rw [Gw (by rw [ho];decide),Gw (by rw [ho];decide),Gw (by rw [ho];decide),Gw (by rw [ho];decide),Gw (by rw [ho];decide),Gw (by rw [ho];decide),Gx ho];exact h.emit (k:=3) (a:=0) (v:=0) (m:=x.mode) (d:=0) (by decide)
 exact⟨by rw [e1,e2];omega,by rw [e1];omega,hs.1,hs.2.1,hs.2.2⟩
theorem RunK.go {l:List InsD} (h12:l.length<=12) (hx:∀ x∈l,zdI x):∀ (n:Nat) (R:RunD),RunK l R->RunK l (goR l n R)
 | 0,R,h=>h
 | n+1,R,h=>by
  unfold goR
  split
  ·exact h
  ·rename_i x he
   split
   ·exact h
   ·have hp:=(Jq.1 he).1;have hm:x∈l:=JY he;exact RunK.go h12 hx n _ (h.exec (hx x hm) hp h12)
theorem RunK.spread {l:List InsD} {dom:List UInt8} (h12:l.length<=12) (hx:∀ x∈l,zdI x):∀ (n:Nat) (R:RunD),RunK l R->∀ S∈qa l dom n R,RunK l S
 | 0,R,h,S,hS=>by
  have hS:S∈[goR l l.length R]:=hS;rw [KA] at hS;rw [hS];exact RunK.go h12 hx _ _ h
 | n+1,R,h,S,hS=>by
  have hg:=RunK.go h12 hx l.length R h;unfold qa at hS
  split at hS
  ·rw [KA] at hS;rw [hS];exact hg
  ·rename_i x he;obtain⟨v,_,hS⟩:=List.mem_flatMap.1 hS;have hp:=(Jq.1 he).1;have hm:x∈l:=JY he;exact RunK.spread h12 hx n _ (hg.exec (hx x hm) hp h12) S hS
theorem zm0 {l:List InsD} {dom:List UInt8} (h12:l.length<=12) (hx:∀ x∈l,zdI x):∀ R∈zaf l dom,R.many<=24/\ztY R:=fun R hR=>by
 have h0:RunK l znz:=⟨Gc _,Ge _,fun _=>(by decide:0<2^32),(by decide:0<2^32),fun _=>⟨(by decide:0<2^32),(by decide:0<2^32),(by decide:0<2^32)⟩⟩;have h:=RunK.spread h12 hx _ _ h0 R hR;have:=h.m;have:=h.p;exact⟨by omega,fun i _=>h.s i⟩
theorem zmx {α:Type} {E:Enc α} {B:Nat} {w:Wd} {p:OA} {l:List α} (h:RowB E B w p l) {i:Nat} (hi:i<l.length):∃ b o,p=some ⟨b,o,none⟩/\b<B/\∀ i (h:i<l.length),zo w ⟨b,o+i*E.sz,none⟩ (E.enc l[i]):=by
 obtain⟨b,o,hp,hat⟩:=h.get;rcases hp with hp | hp
 ·omega
 ·exact⟨b,o,hp,(hat i hi).1,fun j hj=>(hat j hj).2⟩
section
variable {B n:Nat} {p:Prg} {pc:List Value} {V:List UInt8} {w:Wd}
theorem zqw (hB:B<=w.heap.size) (hP:PrgX B w pc p) (hG:GlobE w) (hok:zgR p=true) (hx:∀ l∈p.threads,∀ x∈l,zdI x) (h12:∀ l∈p.threads,l.length<=12) (hi1:1<=p.init.length) (hi12:p.init.length<=12) (his:zdV p.init=true) (hQ:zhT p.threads n (ded p.init)=some V) :
  Calls PG 86 #[.agg pc.toArray,i64 16] w fun e w'=>(∃ (q:OA) (c:Nat),e = .returned (.tuple #[.slice q V.length c,i64 0])/\OwnS zO 5 w.heap.size w' q c V)/\Bw w w':=by
 refine z6 60 [.agg pc.toArray,i64 16] (.c .p (.s .p (.c .p .p))) Tryz.func86 ?_;obtain⟨L,hL⟩:=nm (w.heap.size);have hpc:=hP.v.size;have hthr:=hP.v.len.threads;refine⟨Unit,fun _=>⟨[(1,i64 16),(2,AtR L)],[]⟩,fun _ X=>X.heap[L]?=some (.cells pc.toArray 103 (0,0))/\Bw w X,⟨(),⟨.cons rfl (.cons (by rw [hL];rfl) .nil),rfl⟩,by rw [hL];exact zA w _,(zba w _)⟩,?_⟩;rintro _ X ⟨f0,hbX⟩;refine brF (brF ⟨pc,hpc,za f0,hlt f0,cmo (znb (UT hB hbX.size) (hP.v.below (hbX.mono hB)) (hG.c.below hbX)) ?_⟩);rintro e Y ⟨m,rfl,hm,hbY⟩;have hm0:m=0:=hm.2 hok;subst hm0;refine brF ?_;have hwY:=zst hbX hbY;have f0:=zb hbY f0;obtain⟨_,⟨p3,c3,h3,xs,hxs,zb7,hxr⟩,⟨p2,c2,h2,hinit⟩⟩:=hP;refine⟨OA×Nat,fun s=>⟨[(1,i64 16),(2,AtR L),(6,.slice s.1 (ded p.init).length s.2)],[]⟩,fun s Z=>OwnS zO 5 w.heap.size Z s.1 s.2 (ded p.init)/\Z.heap[L]?=some (.cells pc.toArray 103 (0,0))/\Bw w Z,?_,?_⟩
 ·refine⟨_,zc (za f0) (i:=2) (by simpa using h2),cmo (zec ((hinit.below (hwY.mono hB)).slr (UT hB hwY.size)) hi1 hi12 his) ?_⟩;rintro e Z ⟨⟨q,c,rfl,ho⟩,hbZ⟩;exact⟨(q,c),(cvE rfl rfl),OwnS.lower ho hwY.size,zb hbZ f0,(zst hwY hbZ)⟩
 rintro⟨q,c⟩ X ⟨ho,f0,hbX⟩;refine⟨Nat×List UInt8×OA×Nat,fun s=>⟨[(1,i64 16),(2,AtR L),(6,.slice s.2.2.1 s.2.1.length s.2.2.2)],[]⟩,
  fun s Z=>zhT p.threads s.1 s.2.1=some V/\OwnS zO 5 w.heap.size Z s.2.2.1 s.2.2.2 s.2.1/\Z.heap[L]?=some (.cells pc.toArray 103 (0,0))/\Bw w Z,fun s=>s.1,(n,ded p.init,q,c),
  (cvE rfl rfl),⟨hQ,ho,f0,hbX⟩,?_⟩
 rintro⟨k,vals,q,c⟩ X ⟨hQ,ho,f0,hbX⟩;dsimp only at hQ ho ⊢
 cases k with
 | zero=>cases hQ
 | succ k =>
 have hQ:(if zgB p.threads vals=true then (if (zeD p.threads vals).length=vals.length then some vals else zhT p.threads k (zeD p.threads vals)) else none)=some V:=hQ;have hr:zgB p.threads vals=true:=by
  cases h:zgB p.threads vals with
  | true=>rfl
  | false=>rw [h] at hQ;cases hQ
 rw [Gx hr] at hQ;unfold zgB at hr;simp only [bAT,dE,Qk] at hr;obtain⟨r1,r2,r3,r4,r5⟩:=hr;refine brN (Uj (by omega)) ?_;have hq0:q=none->c=0:=fun e=>by
  rcases ho.inv with ⟨_,h,_⟩ | ⟨g,_,h,_⟩
  ·exact h
  ·rw [e] at h;cases h
 have hqb:∀ a,q=some a->a.block<X.heap.size:=fun a ha=>(zaI ho ha).2.1;refine cmo (zk4 ho.row (by omega) hq0) ?_;rintro e Y ⟨⟨q1,k1,rfl,o1⟩,hbY⟩;have hwY:=zst hbX hbY;have f0Y:=zb hbY f0;have hl3:xs.length=p.threads.length:=by rw [<- hxs,QQ]
 refine⟨_,zc (za f0Y) (i:=3) (by simpa using h3),?_⟩;obtain⟨g,hg⟩:∃ g:List InsD->List UInt8,g=fun l=>j6 (zaf l vals):=⟨_,rfl⟩;rw [<- hg] at r4 r5;have hnx:zeD p.threads vals=ded (vals++p.threads.flatMap g):=by unfold zeD;rw [hg]
 refine⟨Nat×OA×Nat,fun s=>⟨[(1,i64 16),(2,AtR L),(6,.slice q vals.length c),(7,.slice s.2.1 (vals++(p.threads.take s.1).flatMap g).length s.2.2),(33,.slice p3 p.threads.length c3),(34,i64 p.threads.length),(35,i64 (s.1:Nat))],[]⟩,
  fun s Z=>s.1<=p.threads.length/\OwnS zO 5 X.heap.size Z s.2.1 s.2.2 (vals++(p.threads.take s.1).flatMap g)/\Bw X Z,fun s=>p.threads.length-s.1,(0,q1,k1),
  ⟨.cons rfl (.cons rfl (.cons rfl (.cons (by rw [Ur,Qq,QM];rfl) (.cons rfl (.cons rfl (.cons rfl .nil)))))),rfl⟩,⟨Ge _,by show OwnS zO _ _ _ _ _ (vals++(p.threads.take 0).flatMap g);rw [Ur,Qq,QM];exact o1,hbY⟩,?_⟩
 rintro⟨m,q1,k1⟩ Y ⟨hm,o1,hbY⟩;dsimp only at hm o1 ⊢;have hwY:=zst hbX hbY;have f0Y:=zb hbY f0;have hXY:=hbY.size;have lenTake:∀ j,(vals++(p.threads.take j).flatMap g).length<=12:=fun j=>by
  have e:p.threads.flatMap g=(p.threads.take j).flatMap g++(p.threads.drop j).flatMap g:=by rw [<- Kf,JQ]
  rw [e,<- KO,lap] at r4;omega
 refine biE (fun hc=>?_) fun hc=>?_
 ·have hc:(m:Int)<(p.threads.length:Int):=dT hc;have hmt:m<p.threads.length:=by omega
  have hmx:m<xs.length:=by omega
  obtain⟨b3,o3,hp3,hb3,hat3⟩:=zmx (zb7.below (hwY.mono hB)) hmx;have hB2:b3<Y.heap.size:=nL hb3 (UT hB hwY.size);have e3:some (Value.slice p3 p.threads.length c3)=some (Value.slice (some ⟨b3,o3,none⟩) p.threads.length c3):=by rw [hp3]
  subst hp3;refine⟨m,rfl,hmt,zoJ xs[m],by have:=zc (hat3 m hmx) (i:=0) (v:=zoJ xs[m]) rfl;exact this,?_⟩;obtain⟨hrm,hrb⟩:=hxr _ (gM hmx);have hxm:xs[m].1=p.threads[m]:=by
   have:=Gq (fun l=>l[m]?) hxs;simp only [KU,gE hmx,gE hmt,Uf,KZ] at this;exact this
  have hmem:=gM hmt;have ex:=hx _ hmem;have e12:=h12 _ hmem;have hxl:xs[m].1.length=p.threads[m].length:=by rw [hxm]
  have hw:=zoq (w:=Y) (l:=p.threads[m]) (dom:=vals) (q:=xs[m].2.1) (p:=q) (cap:=xs[m].2.2) (cd:=c) (by rw [<- hxm];exact (hrm.below (hwY.mono hB)).slr (UT hB hwY.size)) (ho.row.below hbY) e12 ex (fun R hR=>(zm0 e12 ex R hR).1) (r3 _ hmem) (fun a ha=>nL (hrb a ha) (UT hB hwY.size)) (fun a ha=>nL (hqb a ha) hXY) (by omega);rw [<- hxl] at hw;have eg:j6 (zaf p.threads[m] vals)=g p.threads[m]:=by rw [hg]
  rw [eg] at hw;refine cmo hw ?_;rintro e Z ⟨⟨q2,k2,rfl,o2⟩,hbZ⟩;refine brF ?_;have tk:(p.threads.take (m+1)).flatMap g=(p.threads.take m).flatMap g++g p.threads[m]:=by
   rw [tsg hmt,Kf,KS,Qq,QM]
  have l1:=lenTake m;have l2:=lenTake (m+1);rw [tk,<- KO,lap] at l2;have hXZ:=hbY.trans (hbZ.mono hXY);have hsZ:=hbZ.size;refine zgp (E:=zO) (T:=5) (B:=X.heap.size) (l:=vals++(p.threads.take m).flatMap g) (news:=g p.threads[m]) (cap:=k1) (m:=(g p.threads[m]).length) Tryz.underlying72 k5 rfl rfl rfl (o1.below hbZ) rfl o2.row (fun e=>by
   rcases o2.inv with ⟨_,h,_⟩ | ⟨g',_,h,_⟩
   ·exact h
   ·rw [e] at h;cases h) (by omega) (by omega) (by show ((vals++(p.threads.take m).flatMap g).length+(g p.threads[m]).length)*1<=_;omega) ?_
  intro q4 k4 U oU gU hbU;rw [KO,<- tk] at oU ⊢;exact nxI (by omega) ⟨(m+1,q4,k4),(cvE rfl rfl),⟨hmt,oU,hXZ.trans hbU⟩,zdc (by omega)⟩
 ·have hc:¬ (m:Int)<(p.threads.length:Int):=dF hc;obtain rfl:m=p.threads.length:=by omega
  rw [Qx] at o1 ⊢;refine cmo (zec o1.row (by rw [lap];omega) r4 r5) ?_;rintro e Z ⟨⟨q2,k2,rfl,o2⟩,hbZ⟩;rw [<- hnx] at o2 ⊢;have hXZ:=hbY.trans (hbZ.mono hXY);have hwZ:=zst hbX hXZ;refine biE (fun he=>?_) fun he=>?_
  ·have he:(zeD p.threads vals).length=vals.length:=by
    have:=dT he;omega
   rw [Gx he] at hQ;simp only [KZ] at hQ;subst hQ;exact⟨⟨q,c,rfl,ho.below hXZ⟩,hwZ⟩
  ·have he:¬ (zeD p.threads vals).length=vals.length:=fun e=>(dF he) (by rw [e]);rw [Gw he] at hQ;exact⟨(k,zeD p.threads vals,q2,k2),(cvE rfl rfl),⟨hQ,OwnS.lower o2 hwY.size,zb hXZ f0,hwZ⟩,QA k⟩
end
section
variable {w:Wd} {bP cv B:Nat} {pc:List Value} {qv:OA} {V:List UInt8} {p:Prg}
theorem zrg (fP:w.heap[bP]?=some (.cells pc.toArray 103 (0,0))) (hB:B<=w.heap.size) (hP:PrgX B w pc p) (hil:p.locs.length=p.init.length) (hi6:p.init.length<=6) (hG:GlobE w) (hV:SlR zO w qv V) (hv1:1<=V.length) (hv12:V.length<=12) (hvs:zdV V=true) (hd12:(ded V).length<=12)
  (ht4:p.threads.length<=4) (hT:∀ l∈p.threads,ThrQ V l) (hall:∀ k,k<=p.threads.length->zbU ((p.threads.take k).map fun l=>(zL V l).length)<=4096) (hpb:∀ l∈p.threads,∀ P∈zL V l,PathB p.init.length P)
  (hsome:∀ ds∈zbG ((p.threads.map (zL V)).map List.length),(zkk p.init (zbV (p.threads.map (zL V)) ds)).isSome=true) :
  Calls PG 87 #[At0 bP,.slice qv V.length cv] w fun e w'=>(∃ (ms:List MixX) (q:OA) (c:Nat),e = .returned (.tuple #[.slice q ms.length c,.bool true])/\ms.map (·.m)=zlH p.init (p.threads.map (zL V))/\OwnS zjc 172 w.heap.size w' q c ms/\∀ x∈ms,NInM w.heap.size (fun k=>w.heap.size<=k) w' x)/\Bw w w':=by
 refine z6 89 [At0 bP,.slice qv V.length cv] (.c .p (.c .p (.s .p (.s .p (.c .p (.c .p (.s .p .p))))))) Tryz.func87 ?_;obtain⟨L,hL⟩:=nm (w.heap.size);have hbP:=hlt fP;refine⟨Unit,fun _=>⟨[(1,.slice qv V.length cv),(2,At0 L),(4,At0 (L+1)),(5,At0 (L+2))],[]⟩,fun _ X=>X.heap[L]?=some (.cells #[At0 bP] 169 (0,0))/\X.heap[L+1]?=some (.cells #[.slice none 0 0] 166 (0,0))/\X.heap[L+2]?=some (.cells #[.bool false] 4 (0,0))/\X.heap.size=L+3/\Bw w X,?_,?_⟩
 ·have s1:=wz w (.cells #[At0 bP] 169);have h2:=zA (w.alloc (.cells #[At0 bP] 169)) (.cells #[.slice none 0 0] 166);have s2:=wz (w.alloc (.cells #[At0 bP] 169)) (.cells #[.slice none 0 0] 166);have h3:=zA ((w.alloc (.cells #[At0 bP] 169)).alloc (.cells #[.slice none 0 0] 166)) (.cells #[.bool false] 4);have s3:=wz ((w.alloc (.cells #[At0 bP] 169)).alloc (.cells #[.slice none 0 0] 166)) (.cells #[.bool false] 4);rw [s1] at h2 s2;rw [s2] at h3 s3;refine⟨(),⟨.cons rfl (.cons (by rw [hL];rfl) (.cons (by rw [hL,<- s1];rfl) (.cons (by rw [hL,<- s2];rfl) .nil))),rfl⟩,?_,?_,?_,?_,?_⟩
  ·rw [hL];exact qy _ (qy _ (zA w _))
  ·rw [hL];exact qy _ h2
  ·rw [hL];exact h3
  ·rw [hL];exact s3
  ·exact (((zba w _)).alloc (by simp) _).alloc (by simp;omega) _
 rintro _ X ⟨f0,f1,f2,sX,hbX⟩;refine⟨Unit,fun _=>⟨[(1,.slice qv V.length cv),(2,At0 L),(4,At0 (L+1)),(5,At0 (L+2)),(6,At0 (L+3))],[]⟩,fun _ Y=>MxS w.heap.size Y L bP [] none 0 [] none 0/\Bw w Y,?_,?_⟩
 ·refine⟨(),⟨.cons rfl (.cons rfl (.cons rfl (.cons rfl (.cons (by rw [<- sX];rfl) .nil)))),rfl⟩,⟨qy _ f0,qy _ f1,qy _ f2,by rw [<- sX];exact zA X _,OwnS.nil,OwnS.nil,fun z hz=>(by cases hz),fun z hz=>(by cases hz)⟩,hbX.alloc hbX.size _⟩
 clear f0 f1 f2 sX hbX;rintro _ X ⟨hS,hbX⟩;have hP0:=hP;obtain⟨_,⟨p3,c3,h3,xs,hxs,zb7,hxr⟩,⟨p2,c2,h2,hinit⟩⟩:=hP;have hxl:xs.length=p.threads.length:=by rw [<- hxs,QQ]
 refine⟨(List TpR×OA×Nat)×OA×Nat,fun s=>⟨[(2,At0 L),(4,At0 (L+1)),(5,At0 (L+2)),(6,At0 (L+3)),(7,.slice s.2.1 (p.threads.map fun l=>(zL V l).length).length s.2.2)],[]⟩,fun s Z=>MxS w.heap.size Z L bP (p.threads.map fun l=>(zL V l).length) s.2.1 s.2.2 s.1.1 s.1.2.1 s.1.2.2/\s.1.1.map (fun z=>z.1.map (·.1))=p.threads.map (zL V)/\Bw w Z,?_,?_⟩
 ·refine⟨_,zc (za hS.f0) (i:=0) rfl,_,zc (za (zb hbX fP)) (i:=3) (by simpa using h3),?_⟩;refine⟨Nat×(List TpR×OA×Nat)×OA×Nat,fun s=>⟨[(1,.slice qv V.length cv),(2,At0 L),(4,At0 (L+1)),(5,At0 (L+2)),(6,At0 (L+3)),(7,.slice s.2.2.1 ((p.threads.take s.1).map fun l=>(zL V l).length).length s.2.2.2),(8,i64 (zbU ((p.threads.take s.1).map fun l=>(zL V l).length):Nat)),(23,.slice p3 p.threads.length c3),(24,i64 p.threads.length),(25,i64 (s.1:Nat))],[]⟩,
   fun s Z=>s.1<=p.threads.length/\MxS w.heap.size Z L bP ((p.threads.take s.1).map fun l=>(zL V l).length) s.2.2.1 s.2.2.2 s.2.1.1 s.2.1.2.1 s.2.1.2.2/\s.2.1.1.map (fun z=>z.1.map (·.1))=(p.threads.take s.1).map (zL V)/\Bw w Z,fun s=>p.threads.length-s.1,(0,([],none,0),none,0),
   (cvE rfl rfl),⟨Ge _,hS,rfl,hbX⟩,?_⟩
  clear hS hbX;rintro⟨k,⟨ts,pT,cT⟩,ps,cs⟩ Z ⟨hk,hS,hz,hbZ⟩;dsimp only at hk hS hz ⊢;have hts:ts.length=k:=by
   have:=Gq List.length hz;rw [QQ,QQ,Qv] at this;omega
  refine biE (fun hc=>?_) fun hc=>?_
  ·have hc:(k:Int)<(p.threads.length:Int):=dT hc;have hkl:k<p.threads.length:=by omega
   have hkx:k<xs.length:=by omega
   have hZs:=hbZ.size;obtain⟨l,hlk⟩:∃ l,p.threads[k]=l:=⟨_,rfl⟩;have hlm:l∈p.threads:=by rw [<- hlk];exact gM hkl
   have hQ:=hT l hlm;obtain⟨b3,o3,hp3,hb3,hat3⟩:=zmx (zb7.below (hbZ.mono hB)) hkx;have hB2:b3<Z.heap.size:=by omega
   have e3:some (Value.slice p3 p.threads.length c3)=some (Value.slice (some ⟨b3,o3,none⟩) p.threads.length c3):=by rw [hp3]
   subst hp3;refine⟨k,rfl,hkl,zoJ xs[k],by have:=zc (hat3 k hkx) (i:=0) (v:=zoJ xs[k]) rfl;exact this,?_⟩;obtain⟨hrm,hrb⟩:=hxr _ (gM hkx);have hxm:xs[k].1=l:=by
    have:=Gq (fun l=>l[k]?) hxs;simp only [KU,gE hkx,gE hkl,Uf,KZ] at this;rw [this,hlk]
   have hpt:(p.threads.take (k+1))=p.threads.take k++[l]:=by rw [tsg hkl,hlk]
   refine cmo (zsh (l:=xs[k].1) (vals:=V) ((hrm.below (hbZ.mono hB)).slr (by omega)) (hV.below hbZ) hv1 hv12 hvs (by rw [hxm];exact hQ.ex) (by rw [hxm];exact hQ.ok) (hG.below hbZ) (by rw [hxm];exact zm0 hQ.l12 hQ.ex) (by rw [hxm];exact hQ.m) (fun a ha=>by have:=hrb a ha;omega) hd12) ?_;rintro e Y ⟨⟨rk,pk,ck,rfl,hrk,ork,onk⟩,hbY⟩;rw [hxm] at hrk;have hrk:rk.map (·.1)=zL V l:=hrk;have hrkl:rk.length=(zL V l).length:=by rw [<- hrk,QQ]
   have hpl:(zL V l).length<=4096:=by rw [QQ];exact hQ.m
   have hSY:=hS.below hbY;have hpr:=hall (k+1) hkl;have hpr0:=hall k (by omega);rw [hpt,QT] at hpr;have hpr:zbU ((p.threads.take k).map (fun l=>(zL V l).length)++[(zL V l).length])<=4096:=hpr;rw [zgD,<- hrkl] at hpr;obtain⟨A,hA⟩:=nm (zbU ((p.threads.take k).map fun l=>(zL V l).length));have hA2:zbU ((p.threads.take (k+1)).map fun l=>(zL V l).length)=A*rk.length:=by
    rw [hpt,QT];show zbU ((p.threads.take k).map (fun l=>(zL V l).length)++[(zL V l).length])=_;rw [zgD,<- hrkl,hA]
   rw [<- hA] at hpr hpr0 ⊢;obtain⟨nz,hnz⟩:∃ nz:TpR,nz=(rk,pk,ck):=⟨_,rfl⟩;have hen:[Value.slice pk rk.length ck]=tpE.enc nz:=by rw [hnz];rfl
   refine⟨((A*rk.length:Nat):Int),by rw [<- QK];exact zi (by omega),brF (brN (Uj (by omega)) ⟨_,zc (za hSY.f3) (i:=0) rfl,⟨by decide,by decide,rfl⟩,tpE.enc nz,by rw [<- hen];rfl,?_⟩)⟩;have hb1:Bw Y (Y.alloc (.cells (tpE.enc nz).toArray 233)):=zba _ _;have hS1:=hSY.below hb1;have ork1:=ork.below hb1;have onk1:=fun x hx=>(onk x hx).same (Z:=Y.alloc (.cells (tpE.enc nz).toArray 233)) fun {α E T c q l} _ ho=>ho.below hb1;unfold zeC zav;show SatR _ _;refine zvX hS1.rk (qF tpE nz) (by have:=hb1.size;have:=hbY.size;omega) (by omega) fun p' c' U oU gU hat1=>?_;have f0U:=qg hS1.f0 hS1.rk (by decide) gU;have f1U:=qg hS1.f1 hS1.rk (by decide) gU;have f2U:=qg hS1.f2 hS1.rk (by decide) gU;have f3U:=qg hS1.f3 hS1.rk (by decide) gU;refine zu zvS f3U (o:=0) (v := .slice p' (ts++[nz]).length c') rfl rfl (by show 0<1;decide) rfl fun S fS gS sS=>?_;have hbZY:=hbZ.trans (hbY.mono hZs);have sY:=hbY.size;have sb1:=hb1.size;have hbU:Bw w U:=(hbZY.trans (hb1.mono (by omega))).trans (q6 hS1.rk (by omega) (Gc _) gU);have hbS:Bw w S:=hbU.trans (zm gS hbU.size (by omega));have hSS:MxS w.heap.size S L bP ((p.threads.take k).map fun l=>(zL V l).length) ps cs (ts++[nz]) p' c':=by
    have kU:∀ {α:Type} {E:Enc α} {T cc:Nat} {r:OA} {ll:List α},T≠233->T≠232->OwnS E T w.heap.size (Y.alloc (.cells (tpE.enc nz).toArray 233)) r cc ll->OwnS E T w.heap.size S r cc ll:=fun {α E T cc r ll} h1 h2 h=>qh (j8 h hS1.rk h1 gU) f3U h2 gS;have kB:∀ {b:Nat} {o:Obj},b≠L+3->U.heap[b]?=some o->S.heap[b]?=some o:=fun {b o} hb h=>(gS.block b (hlt h) (by simpa using hb)).trans h;have kP:∀ x:zdp,PthO w.heap.size (Y.alloc (.cells (tpE.enc nz).toArray 233)) x->PthO w.heap.size S x:=fun x hx=>hx.same fun {α E T c q l} ht ho=>kU (by rcases ht with rfl | rfl <;> decide) (by rcases ht with rfl | rfl <;> decide) ho;refine⟨kB (by omega) f0U,kB (by omega) f1U,kB (by omega) f2U,fS,kU (by decide) (by decide) hS1.own,qh oU f3U (by decide) gS,fun z hz=>?_,fun z hz=>?_⟩
    ·rcases QU.1 hz with hz | hz
     ·exact kU (by decide) (by decide) (hS1.n1 z hz)
     ·rw [KA.1 hz,hnz];exact kU (by decide) (by decide) (ork1.lower hZs)
    ·rcases QU.1 hz with hz | hz
     ·exact fun x hx=>kP x (hS1.n2 z hz x hx)
     ·rw [KA.1 hz,hnz];exact fun x hx=>kP x ((onk1 x hx).mono hZs)
   clear hS1 ork1 onk1 hSY hS oU gU hat1 f0U f1U f2U f3U fS gS;refine⟨⟨by decide,by decide,rfl⟩,zC.enc rk.length,rfl,?_⟩;have hb2:Bw S (S.alloc (.cells (zC.enc rk.length).toArray 3)):=zba _ _;have hS2:=hSS.below hb2;have sbS:=hbS.size;have sb2:=hb2.size;unfold zeC zav;show SatR _ _;refine zqr hS2.own (qF zC rk.length) (by omega) (by rw [QQ,Qv];omega) fun p2' c2' V' oV gV hat2=>?_;rw [zaH] at gV;have hSV:=hS2.size oV gV;have hzz:((p.threads.take k).map fun l=>(zL V l).length)++[rk.length]=(p.threads.take (k+1)).map fun l=>(zL V l).length:=by
    rw [hpt,QT,hrkl];rfl
   rw [hzz] at hSV ⊢;refine nxI (by omega) ⟨(k+1,(ts++[nz],p',c'),p2',c2'),⟨.cons rfl (.cons rfl (.cons rfl (.cons rfl (.cons rfl (.cons rfl (.cons (by show _=some (i64 (zbU ((p.threads.take (k+1)).map fun l=>(zL V l).length):Nat));rw [hA2];rfl) (.cons rfl (.cons rfl (.cons rfl .nil))))))))),rfl⟩,⟨hkl,hSV,?_,hbS.trans ((hb2.mono sbS).trans (q6 hS2.own (by omega) (Gc _) gV))⟩,zdc (by omega)⟩;rw [hpt,QT,QT,hz,hnz];show _++[rk.map (·.1)]=_++[zL V l];rw [hrk]
  ·have hc:¬ (k:Int)<(p.threads.length:Int):=dF hc;obtain rfl:k=p.threads.length:=by omega
   rw [Qx] at hz hS ⊢;exact⟨((ts,pT,cT),ps,cs),(cvE rfl rfl),hS,hz,hbZ⟩
 rintro⟨⟨ts,pT,cT⟩,ps,cs⟩ X ⟨hS,hz,hbX⟩;dsimp only at hS hz ⊢;obtain⟨Q,hQ⟩:=nm (X.heap.size);refine⟨Unit,fun _=>⟨[(2,At0 L),(4,At0 (L+1)),(5,At0 (L+2)),(6,At0 (L+3)),(7,.slice ps (p.threads.map fun l=>(zL V l).length).length cs),(13,At0 Q)],[]⟩,fun _ Z=>MxS w.heap.size Z L bP (p.threads.map fun l=>(zL V l).length) ps cs ts pT cT/\Z.heap[Q]?=some (.cells #[.slice none 0 0] 166 (0,0))/\Z.heap.size=Q+1/\Bw w Z,?_,?_⟩
 ·refine⟨(),⟨.cons rfl (.cons rfl (.cons rfl (.cons rfl (.cons rfl (.cons (by rw [hQ];rfl) .nil))))),rfl⟩,hS.below ((zba X _)),by rw [hQ];exact zA X _,by rw [hQ];exact wz _ _,hbX.alloc hbX.size _⟩
 have hQw:w.heap.size+4<=Q:=by have:=hlt hS.f3;omega
 clear hS hbX hQ;clear X;rintro _ X ⟨hS,fQ,sX,hbX⟩;obtain⟨Ts,hTs⟩:=nm (p.threads.map (zL V));have hTl:Ts.length=p.threads.length:=by rw [hTs,QQ]
 have htl:ts.length=p.threads.length:=by have:=Gq List.length hz;simpa using this
 have hsz:(p.threads.map fun l=>(zL V l).length)=Ts.map List.length:=by rw [hTs,UL];rfl
 rw [hsz] at hS ⊢;rw [<- hTs] at hsome hz ⊢;have hsl1:(Ts.map List.length).length<=1000:=by rw [QQ];omega
 have hsl2:∀ n∈Ts.map List.length,n<=1000000:=fun n hn=>by
  rw [hTs,UL] at hn;obtain⟨l,hl,rfl⟩:=UO.1 hn;have:=(hT l hl).m;show ((zaf l (ded V)).map zck).length<=_;rw [QQ];omega
 have hmemT:∀ z∈ts,∀ x∈z.1,PathB p.init.length x.1:=fun z hz' x hx=>by
  have h1:z.1.map (·.1)∈Ts:=by rw [<- hz];exact UO.2 ⟨z,hz',rfl⟩
  rw [hTs] at h1;obtain⟨l,hl,he⟩:=UO.1 h1;exact hpb l hl x.1 (by rw [he];exact UO.2 ⟨x,hx,rfl⟩)
 refine cmo zpk ?_;rintro e V1 ⟨rfl,fo,sV1,hbV1⟩;have hI:=zsu fo (hS.own.row.below hbV1) (fun a ha=>by have:=(zx hS.own ha).2.1;omega) hsl1 hsl2;have hS1:=hS.below hbV1;have hb1:Bw w V1:=zst hbX hbV1;have hG0:Gath zjc 172 166 Q V1.heap.size Q V1 (NInM w.heap.size) [] (fun k=>k=Q) V1 :=
  ⟨Gc _,rfl,fun k hk=>by omega,⟨none,0,zb hbV1 fQ,OwnS.nil,fun a h=>by cases h⟩,fun x hx=>(by cases hx),Gh _ _⟩
 obtain⟨f,hf⟩:∃ f:List Nat->Option MixD,f=fun ds=>zkk p.init (zbV Ts ds):=⟨_,rfl⟩;have hmix:zlH p.init Ts=(zbG (Ts.map List.length)).filterMap f:=by rw [hf];rfl
 refine zc4 (zbi _) rfl (lb := #[At0 X.heap.size]) rfl rfl hI (Gc _) (fun k hk=>⟨?_,rfl⟩) (fun pre vs W ⟨l,q,_,h,_⟩=>by rw [h];rfl) (by decide)
  (fun k=>k=Q) (fun pre F Y=>∃ ms,(ms.map (·.m)=pre.filterMap f/\ms.length<=pre.length)/\Gath zjc 172 166 Q V1.heap.size Q V1 (NInM w.heap.size) ms F Y) (fun _ _ _ _=>False) (fun k hk=>?_) (Gath.iter (zij _) (by omega)) (fun ex=>⟨fun _ _ _ _ h=>h.elim,fun _ _ _ _ h=>h.elim⟩) ⟨[],⟨rfl,Ge _⟩,hG0⟩ ?_ ?_ ?_
 ·rcases hk with (rfl | ⟨a,ha,rfl⟩) | h
  ·omega
  ·have:=(zx hS.own ha).2.1;omega
  ·exact h.elim
 ·rcases hk with rfl | ⟨a,ha,rfl⟩
  ·omega
  ·obtain⟨_,_,cur,hc⟩:=zx hS.own ha;intro e;rw [e,fQ] at hc;simp at hc
 ·rintro yl pre ds vs F Y hyl hpre hJ0 ⟨l,qd,hlast,rfl,hsl,hcel⟩ hfy ⟨lo,hlo⟩;have hdx:ds=l:=by simpa using hlast
  subst hdx;refine⟨rfl,F,KeepsG.refl _ _,hJ0,?_⟩;rintro O Y2 hY2 ⟨ms,⟨hms,hml⟩,hG2⟩;have hslY:SlR zC Y2 qd ds:=by
   rw [hY2];refine qN hsl fun a ha=>zj fun e=>?_;obtain⟨cur,hcur⟩:=hcel a ha;rw [e,hlo] at hcur
   cases hcur
  obtain⟨hdl,hdlt⟩:=zm1 (hpre.subset (JO _ (KA.2 rfl)));have hsome1:=hsome ds (hpre.subset (JO _ (KA.2 rfl)));rw [QQ] at hdl;have hY2s:=hG2.size;have old:∀ {k:Nat} {ob:Obj},k<Q->V1.heap[k]?=some ob->Y2.heap[k]?=some ob:=fun {k ob} hk h=>(hG2.old.block k hk).trans h;have g0:=old (by omega) hS1.f0;have g3:=old (by omega) hS1.f3;have kR:∀ {α:Type} {E:Enc α} {T cc:Nat} {r:OA} {ll:List α},T≠166->OwnS E T w.heap.size X r cc ll->OwnS E T w.heap.size Y2 r cc ll:=fun {α E T cc r ll} hT h=>h.same fun a ha=>by
   have hq:a.block≠Q:=fun e=>by
    obtain⟨_,_,cur,hc⟩:=zx h ha;rw [e,fQ] at hc;simp at hc;exact hT hc.2.symm
   have:=(zx h ha).2.1;exact (hG2.old.block _ (by omega)).trans (hbV1.block _ this)
  have rkY:=kR (by decide) hS.rk;have n1Y:=fun z hz=>kR (by decide) (hS.n1 z hz);have n2Y:∀ z∈ts,∀ x∈z.1,PthO w.heap.size Y2 x:=fun z hz x hx=>(hS.n2 z hz x hx).same fun {α E T c q l} ht ho=>kR (by rcases ht with rfl | rfl <;> decide) ho;have fPY:Y2.heap[bP]?=some (.cells pc.toArray 103 (0,0)):=old (by omega) ((hb1.block bP hbP).trans fP);have hbwY:Bw w Y2:=hb1.trans (hG2.old.mono (by omega));refine⟨Nat×List zdp×OA×Nat,fun s=>⟨[(2,At0 L),(6,At0 (L+3)),(13,At0 Q),(15,.slice s.2.2.1 s.2.1.length s.2.2.2),(58,.slice qd ds.length ds.length),(59,i64 ds.length),(60,i64 (s.1:Nat))],[]⟩,
   fun s Z=>s.1<=ds.length/\OwnS jv 241 Y2.heap.size Z s.2.2.1 s.2.2.2 s.2.1/\s.2.1.map (·.1)=zbV (Ts.take s.1) (ds.take s.1)/\s.2.1.length=s.1/\(∀ x∈s.2.1,∃ z∈ts,x∈z.1)/\Bw Y2 Z,fun s=>ds.length-s.1,(0,[],none,0),
   (cvE rfl rfl),⟨Ge _,OwnS.nil,by simp [zbV],rfl,fun x hx=>(by cases hx),Gh _ _⟩,?_⟩
  rintro⟨k,Cs,pC,cC⟩ Z ⟨hk,oC,hCs,hCl,hCm,hbZ⟩;dsimp only at hk oC hCs hCl hCm ⊢;have hZs:=hbZ.size;refine biE (fun hc=>?_) fun hc=>?_
  ·have hc:(k:Int)<(ds.length:Int):=dT hc;have hkl:k<ds.length:=by omega
   have hkt:k<ts.length:=by omega
   obtain⟨z,hzk⟩:∃ z,ts[k]=z:=⟨_,rfl⟩;have hzm:z∈ts:=by rw [<- hzk];exact gM hkt
   have hkT:k<Ts.length:=by omega
   have hzT:Ts[k]=z.1.map (·.1):=by
    have h1:Ts[k]?=some (z.1.map (·.1)):=(by rw [<- hz,KU,gE hkt,hzk];rfl);rw [gE hkT] at h1;exact Ug h1
   obtain⟨d,hd⟩:∃ d,ds[k]=d:=⟨_,rfl⟩;have hdz:d<z.1.length:=by
    have:=hdlt k (Ts[k].length) d (by rw [KU,gE hkT];rfl) (by rw [gE hkl,hd]);rw [hzT,QQ] at this;exact this
   obtain⟨x,hx⟩:∃ x,z.1[d]=x:=⟨_,rfl⟩;have hxm:x∈z.1:=by rw [<- hx];exact gM hdz
   have hpick:zbV (Ts.take (k+1)) (ds.take (k+1))=zbV (Ts.take k) (ds.take k)++[x.1]:=by
    rw [tsg hkT,tsg hkl,hd,hzT,zgF _ _ _ _ (by rw [Qv,Qv];omega),KU,gE hdz,hx];rfl
   obtain⟨bD,oD,hpD,hlD,hatD⟩:=(hslY.below hbZ).at hkl;obtain⟨bT,oT,hpT,hlT,hatT⟩:=(rkY.below hbZ).row.at hkt;obtain⟨bz,oz,hpz,hlz,hatz⟩:=((n1Y z hzm).below hbZ).row.at hdz;subst hpD;subst hpT;refine⟨k,rfl,hkl,i64 d,by have:=zc (hatD k hkl) (i:=0) (v:=i64 d) (by rw [hd];rfl);exact this,_,zc (za (zb hbZ g3)) (i:=0) rfl,k,rfl,hkt,.slice z.2.1 z.1.length z.2.2,by have:=zc (hatT k hkt) (i:=0) (v := .slice z.2.1 z.1.length z.2.2) (by rw [hzk];rfl);exact this,?_⟩;rw [hpz];refine⟨d,rfl,hdz,jv.enc x,jv.len x,by rw [<- hx];exact hatz d hdz,hlz,?_⟩;refine⟨⟨by decide,by decide,rfl⟩,jv.enc x,zbc (jv.len x) rfl,?_⟩;have hb2:Bw Z (Z.alloc (.cells (jv.enc x).toArray 241)):=zba _ _;have sb2:=hb2.size;unfold zeC zav;show SatR _ _;refine zvZ (oC.below hb2) (qF jv x) (by omega) (by omega) fun p' c' U oU gU hat1=>nxI (by omega) ⟨(k+1,Cs++[x],p',c'),(cvE rfl rfl),⟨hkl,oU,by rw [QT,hCs,hpick];rfl,by rw [lap,hCl];rfl,fun y hy=>?_,hbZ.trans ((hb2.mono hZs).trans (q6 (oC.below hb2) (by omega) (Gc _) gU))⟩,zdc (by omega)⟩;rcases QU.1 hy with hy | hy
   ·exact hCm y hy
   ·rw [KA.1 hy];exact⟨z,hzm,hxm⟩
  have hc:¬ (k:Int)<(ds.length:Int):=dF hc;obtain rfl:k=ds.length:=by omega
  rw [Qx,JE (by omega)] at hCs;obtain⟨q1,k1,q2,k2,q3,k3,q4,k4,hvs,_⟩:=hP0.v.h;have hpc1:pc[1]?=some (.slice q1 p.init.length k1):=by rw [hvs,<- hil];rfl
  have hZw:w.heap.size<=Z.heap.size:=by have:=hbwY.size;omega
  refine⟨_,zc (za (zb hbZ g0)) (i:=0) rfl,?_⟩;obtain⟨mx,hmx⟩:∃ mx,zkk p.init (Cs.map (·.1))=some mx:=by
   rw [hCs];exact Option.isSome_iff_exists.1 hsome1
  have hfd:f ds=some mx:=by rw [hf,<- hmx,hCs]
  refine cmo (zme (zb hbZ fPY) hpc1 h2 ((hinit.below (((zst hbwY hbZ)).mono hB)).slr (by omega)) hi6 oC.row (fun x hx=>?_) (fun x hx=>?_) (by omega)) ?_
  ·obtain⟨z,hz1,hx1⟩:=hCm x hx;obtain⟨o1,o2,o3,o4⟩:=n2Y z hz1 x hx1;refine⟨fun a ha=>?_,(o1.below hbZ).row,(o2.below hbZ).row,(o3.below hbZ).row,(o4.below hbZ).row⟩;rcases ha with ha | ha | ha
   ·exact (zx (o2.below hbZ) ha).2.1
   ·exact (zx (o3.below hbZ) ha).2.1
   ·exact (zx (o4.below hbZ) ha).2.1
  ·obtain⟨z,hz1,hx1⟩:=hCm x hx;exact hmemT z hz1 x hx1
  rintro e U ⟨⟨vs,hres⟩,hbU⟩;rw [hmx] at hres;obtain⟨rfl,x1,x2,x3,x4,y1,y2,y3,y4,xs',ys',hvs',m1,m2,m3,m4,m5,m6,m7,m8⟩:=hres;obtain⟨nx,hnx⟩:∃ nx:MixX,nx=⟨mx,x1,y1,x2,y2,x3,y3,x4,y4,xs',ys'⟩:=⟨_,rfl⟩;have hen:vs=zjc.enc nx:=by rw [hvs',hnx];rfl
  have hvl:vs.length=336:=by rw [hen];exact zjc.len nx
  have hv1:vs.all Value.oneCell'=true:=by rw [hen];exact zkl nx
  have hUs:=hbU.size;refine zk (X:=U) (v := .agg vs.toArray) zpE hvl j5 hv1 fun V' hbV fV sV=>?_;have fV:V'.heap[U.heap.size]?=some (.cells vs.toArray 172 (0,0)):=fV;refine brF ?_;have hbY2V:Bw Y2 V':=(hbZ.trans (hbU.mono hZs)).trans (hbV.mono (by omega));obtain⟨pr,cr,h4,h5,h6⟩:=hG2.row;refine⟨_,zc (za (zb hbY2V h4)) (i:=0) rfl,vs,hvl,za fV,hlt fV,⟨by decide,by decide,j5⟩,zjc.enc nx,by rw [<- hen];exact zbc hvl j5,?_⟩;have hpl:pre.length<1000000000:=by
   obtain⟨t,ht⟩:=hpre;have h7:(pre++[ds]++t).length=qc (Ts.map List.length).reverse:=by
    rw [ht];unfold zbG;rw [QQ,KV]
   have h8:qc (Ts.map List.length).reverse<=4096:=by
    have h9:=hall p.threads.length (Gc _);rw [Qx,hsz] at h9;rw [znH];exact h9
   simp only [lap,Qt] at h7;omega
  have hnw:∀ (G:Nat->Prop) (S:Wd),(∀ k,Y2.heap.size<=k->k<V'.heap.size->S.heap[k]?=V'.heap[k]?)->(∀ k,Y2.heap.size<=k->k<V'.heap.size->G k)->NInM w.heap.size G S nx:=by
   intro G S hs hg;have kp:∀ {α:Type} {E:Enc α} {T cc:Nat} {r:OA} {ll:List α},OwnS E T Z.heap.size U r cc ll->RowIn E T w.heap.size G S r cc ll:=fun {α E T cc r ll} h=>by
    have ol:∀ a,r=some a->Y2.heap.size<=a.block/\a.block<V'.heap.size:=fun a ha=>⟨by have:=(zx h ha).1;omega,by have:=(zx h ha).2.1;omega⟩;exact⟨OwnS.lower ((h.below hbV).same fun a ha=>hs _ (ol a ha).1 (ol a ha).2) hZw,fun a ha=>hg _ (ol a ha).1 (ol a ha).2⟩
   rw [hnx];exact⟨m3,m6,kp m1,kp m2,kp m4,fun y hy=>kp (m5 y hy),kp m7,fun y hy=>kp (m8 y hy)⟩
  obtain⟨v,Y5,hrun,S,hrun2,F',hG',hK',hFF'⟩:=hG2.step (P:=PG) (ty:=166) (cap1:=1) (zij _) (by decide) Tryz.underlying166 zpE rfl rfl (by show _=336;exact j5) zu3 rfl (by omega) (Gc _) hbY2V nx (by omega) (by show (ms.length+1)*2488<=_;omega) hnw pr cr h4;unfold zeC zav;refine SatR.mk hrun (SatR.mk hrun2 ⟨F',⟨_,⟨?_,by rw [lap,lap];show ms.length+1<=pre.length+1;omega⟩,hG'⟩,hK'⟩);rw [QT,List.filterMap_append,hms];show _++[nx.m]=_++List.filterMap f [ds];rw [show List.filterMap f [ds]=[mx] by rw [List.filterMap_cons,hfd];rfl,hnx]
 ·rintro D F Y hD hfD ⟨ms,⟨hms,hml⟩,hG⟩ hdef;obtain⟨pr,cr,h4,h5,h6⟩:=hG.row;have hYs:=hG.size;have old:∀ {k:Nat} {ob:Obj},k<Q->V1.heap[k]?=some ob->Y.heap[k]?=some ob:=fun {k ob} hk h=>(hG.old.block k hk).trans h;have g1:=old (by omega) hS1.f1;have g2:=old (by omega) hS1.f2;refine⟨_,zc (za h4) (i:=0) rfl,zu zu3 g1 (o:=0) (v := .slice pr ms.length cr) rfl rfl (by show 0<1;decide) rfl fun Z1 fZ1 gZ1 sZ1=>zu k4 ((gZ1.block (L+2) (hlt g2) (by simp)).trans g2) (o:=0) (v := .bool true) rfl rfl (by show 0<1;decide) rfl fun Z2 fZ2 gZ2 sZ2=>?_⟩;have k2:∀ k,k<Y.heap.size->k≠L+1->k≠L+2->Z2.heap[k]?=Y.heap[k]?:=fun k hk n1 n2=>(gZ2.block k (by rw [sZ1];exact hk) (by simpa using n2)).trans (gZ1.block k hk (by simpa using n1));refine⟨_,rfl,(k2 D (hlt hdef) (by omega) (by omega)).trans hdef,?_⟩;have f2':=(gZ2.block (L+1) (hlt fZ1) (by simp)).trans fZ1;have kp:∀ a:Addr,a.block≠L+1->a.block≠L+2->F a.block->a.block<Y.heap.size->(Z2.putObj D (.deferred none)).heap[a.block]?=Y.heap[a.block]?:=fun a n1 n2 h2 h3=>(zj fun e=>by rw [<- e] at hfD;exact hfD h2).trans (k2 _ h3 n1 n2);have hwY:=hb1.trans (hG.old.mono (by omega));have b2:=(hwY.trans (zm gZ1 hwY.size (by omega))).trans (zm gZ2 (by have:=hwY.size;omega) (by omega));have ne:∀ {α:Type} {E:Enc α} {T B' cc:Nat} {r:OA} {ll:List α},T≠166->T≠4->OwnS E T B' Y r cc ll->∀ a,r=some a->a.block≠L+1/\a.block≠L+2:=fun {α E T B' cc r ll} t1 t2 h a ha=>by
   obtain⟨_,_,cur,hc⟩:=zx h ha;refine⟨fun e=>?_,fun e=>?_⟩
   ·rw [e,g1] at hc;simp at hc;exact t1 hc.2.symm
   ·rw [e,g2] at hc;simp at hc;exact t2 hc.2.symm
  refine⟨.slice pr ms.length cr,zc (za ((zj (by omega)).trans f2')) (i:=0) rfl,.bool true,zc (za ((zj (by omega)).trans fZ2)) (i:=0) rfl,⟨ms,pr,cr,rfl,by rw [hms,hmix],?_,fun x hx=>?_⟩,qX b2 (by omega) _⟩
  ·exact OwnS.lower (h5.same fun a ha=>kp a (ne (by decide) (by decide) h5 a ha).1 (ne (by decide) (by decide) h5 a ha).2 (h6 a ha) (zx h5 ha).2.1) (by omega)
  ·exact (hG.nest x hx).same fun {α E T c q l} t1 t2 t3 hr=>⟨hr.own.same fun a ha=>kp a (ne t2 t3 hr.own a ha).1 (ne t2 t3 hr.own a ha).2 (hr.inF a ha) (zx hr.own ha).2.1,fun a ha=>(zx hr.own ha).1⟩
 ·rintro D ex pre F Y hD hfD hpre h;exact h.elim
end
abbrev jP (p:Prg) (V:List UInt8):List MixD:=zlH p.init (p.threads.map (zL V))
def zab (m:MixD):List ExD:=if zdm m 1=0 then [] else zfC m
abbrev zcb (p:Prg) (V:List UInt8):List ExD:=(jP p V).flatMap zab
structure CandQ (p:Prg) (n:Nat) (V:List UInt8) (most:Nat):Prop where
 ok:zgR p=true
 il:p.locs.length=p.init.length
 i1:1<=p.init.length
 i6:p.init.length<=6
 is:zdV p.init=true
 vals:zhT p.threads n (ded p.init)=some V
 v1:1<=V.length
 v12:V.length<=12
 vs:zdV V=true
 d12:(ded V).length<=12
 t4:p.threads.length<=4
 th:∀ l∈p.threads,ThrQ V l
 all:∀ k,k<=p.threads.length->zbU ((p.threads.take k).map fun l=>(zL V l).length)<=4096
 pb:∀ l∈p.threads,∀ P∈zL V l,PathB p.init.length P
 some:∀ ds∈zbG ((p.threads.map (zL V)).map List.length),(zkk p.init (zbV (p.threads.map (zL V)) ds)).isSome=true
 ml:(jP p V).length<=5000
 mb:∀ m∈jP p V,MixB m
 m20:most<=20000
 cnt:((jP p V).map fun m=>zdm m 20001).sum<=most
 len:(zcb p V).length<=30000
theorem zoL {l:List Nat} (k:Nat):(l.take k).sum<=l.sum:=by
 have:l.sum=(l.take k).sum+(l.drop k).sum:=by rw [<- List.sum_append,JQ]
 omega
theorem zr1 {m:MixD} {xs ys:List zay} {lim:Nat} (h1:xs.map (·.1)=m.rs.map (·.2)) (h2:ys.map (·.1)=m.wr):zqe lim (xs.map (·.1)) (ys.map (·.1))=zdm m lim:=by
 rw [h1,h2];rfl
section
variable {w:Wd} {B n most:Nat} {pc:List Value} {p:Prg} {V:List UInt8}
theorem zsn (hB:B<=w.heap.size) (hP:PrgX B w pc p) (hG:GlobE w) (hQ:CandQ p n V most) :
  Calls PG 46 #[.agg pc.toArray,i64 most] w fun e w'=>(∃ (xs:List zfZ) (q:OA) (c:Nat),e = .returned (.tuple #[.slice q xs.length c,i64 0])/\xs.map (·.1)=zcb p V/\OwnS exE 37 w.heap.size w' q c xs/\∀ x∈xs,OwnS evE 158 w.heap.size w' x.2.1 x.2.2 x.1.ev)/\Bw w w':=by
 refine z6 74 [.agg pc.toArray,i64 most] (.c .p (.s .p (.s .p (.s .p (.c .p (.s .p (.s .p (.c .p (.c .p (.c .p .p)))))))))) Tryz.func46 ?_;obtain⟨L,hL⟩:=nm (w.heap.size);have hpc:=hP.v.size;have hm20:=hQ.m20;refine⟨Unit,fun _=>⟨[(1,i64 most),(2,At0 L)],[]⟩,fun _ X=>X.heap[L]?=some (.cells pc.toArray 103 (0,0))/\L<X.heap.size/\Bw w X,⟨(),⟨.cons rfl (.cons (by rw [hL];rfl) .nil),rfl⟩,by rw [hL];exact zA w _,by rw [hL];exact hlt (zA w _),(zba w _)⟩,?_⟩;rintro _ X ⟨f0,sX,hbX⟩;refine brN (Uj (by omega)) (brN (Uj (by omega)) ⟨pc,hpc,za f0,hlt f0,cmo (znb (UT hB hbX.size) (hP.v.below (hbX.mono hB)) (hG.c.below hbX)) ?_⟩);rintro e Y ⟨m,rfl,hm,hbY⟩;have hm0:m=0:=hm.2 hQ.ok;subst hm0;refine brF ?_;have hwY:=zst hbX hbY;have f0:=zb hbY f0;refine⟨pc,hpc,za f0,hlt f0,cmo (zqw (UT hB hwY.size) (hP.below (hwY.mono hB)) (hG.below hwY) hQ.ok (fun l hl=>(hQ.th l hl).ex) (fun l hl=>(hQ.th l hl).l12) hQ.i1 (by have:=hQ.i6;omega) hQ.is hQ.vals) ?_⟩;rintro e Z ⟨⟨qv,cv,rfl,oV⟩,hbZ⟩;refine brF ?_;have hwZ:=zst hwY hbZ;have f0:=zb hbZ f0;clear hbX hbY hwY;obtain⟨V0,hV0⟩:=nm (V);refine⟨List MixX×OA×Nat,fun s=>⟨[(1,i64 most),(8,.slice s.2.1 s.1.length s.2.2),(9,.bool true)],[]⟩,fun s U=>s.1.map (·.m)=jP p V/\OwnS zjc 172 w.heap.size U s.2.1 s.2.2 s.1/\(∀ x∈s.1,NInM w.heap.size (fun k=>w.heap.size<=k) U x)/\Bw w U,?_,?_⟩
 ·refine cmo (zrg f0 (UT hB hwZ.size) (hP.below (hwZ.mono hB)) hQ.il hQ.i6 (hG.below hwZ) oV.row hQ.v1 hQ.v12 hQ.vs hQ.d12 hQ.t4 hQ.th hQ.all hQ.pb hQ.some) ?_;rintro e U ⟨⟨ms,q,c,rfl,hms,oM,nM⟩,hbU⟩;exact⟨(ms,q,c),(cvE rfl rfl),hms,oM.lower hwZ.size,fun x hx=>(nM x hx).lower hwZ.size,(zst hwZ hbU)⟩
 clear oV hbZ hwZ f0;rintro⟨ms,q,c⟩ X ⟨hms,oM,nM,hbX⟩;dsimp only at hms oM nM ⊢;refine brF ?_;have hml:ms.length<=5000:=by have:=hQ.ml;rw [<- hms,QQ] at this;exact this
 have hmb:∀ x∈ms,MixB x.m:=fun x hx=>hQ.mb x.m (by rw [<- hms];exact UO.2 ⟨x,hx,rfl⟩);have hsum:(ms.map fun x=>zdm x.m 20001).sum<=most:=by
  have:=hQ.cnt;rw [<- hms,UL] at this;exact this
 have htake:∀ k,((ms.take k).map fun x=>zdm x.m 20001).sum<=most:=fun k=>by
  have:=zoL (l:=ms.map fun x=>zdm x.m 20001) k;rw [<- List.map_take] at this;omega
 obtain⟨tot,htot⟩:=nm ((ms.map fun x=>zdm x.m 20001).sum);have cnt:∀ {Z:Wd} {k lim:Nat} (hk:k<ms.length),OwnS zjc 172 w.heap.size Z q c ms->(∀ x∈ms,NInM w.heap.size (fun k=>w.heap.size<=k) Z x)->1<=lim->lim<=100000->∃ b o,q=some ⟨b,o,none⟩/\Calls PG 88 #[.pointer (some ⟨b,o+k*336,none⟩),i64 lim] Z fun e w'=>e = .returned (i64 (zdm ms[k].m lim:Nat))/\Z=w':=fun {Z k lim} hk oM nM h1 h2=>by
  obtain⟨b,o,hq,hb,hat⟩:=oM.row.at hk;have hx:=nM ms[k] (gM hk);have hb1:=hmb ms[k] (gM hk);have hxl:ms[k].xs.length=ms[k].m.rs.length:=by have:=Gq List.length hx.e2;simpa using this
  have hyl:ms[k].ys.length=ms[k].m.wr.length:=by have:=Gq List.length hx.e3;simpa using this
  refine⟨b,o,hq,?_⟩;have:=zrS (lim:=lim) (r := .slice ms[k].p1 ms[k].m.rs.length ms[k].c1) (hat k hk) hx.r2.own.row hx.r3.own.row (fun y hy=>?_) (fun y hy=>?_) (by have:=hb1.rl;omega) (by have:=hb1.wl;omega) h1 h2
  ·rw [zr1 hx.e2 hx.e3] at this;exact this
  ·have h3:y.1∈ms[k].m.rs.map (·.2):=by rw [<- hx.e2];exact UO.2 ⟨y,hy,rfl⟩
   obtain⟨r,hr,he⟩:=UO.1 h3;rw [<- he];exact (hb1.rs r hr).2.1
  ·have h3:y.1∈ms[k].m.wr:=by rw [<- hx.e3];exact UO.2 ⟨y,hy,rfl⟩
   have:=(hb1.wr _ h3).1;omega
 refine⟨Unit,fun _=>⟨[(8,.slice q ms.length c),(10,i64 tot)],[]⟩,fun _ Z=>X=Z,?_,?_⟩
 ·refine⟨Nat,fun k=>⟨[(1,i64 most),(8,.slice q ms.length c),(10,i64 (((ms.take k).map fun x=>zdm x.m 20001).sum:Nat)),(40,i64 ms.length),(41,i64 (k:Nat))],[]⟩,
   fun k Z=>k<=ms.length/\X=Z,fun k=>ms.length-k,0,(cvE rfl rfl),⟨Ge _,rfl⟩,?_⟩
  rintro k _ ⟨hk,rfl⟩;dsimp only;refine biE (fun hc=>?_) fun hc=>?_
  ·have hc:(k:Int)<(ms.length:Int):=dT hc;have hkl:k<ms.length:=by omega
   obtain⟨b,o,hq,hcall⟩:=cnt (lim:=20001) hkl oM nM (by decide) (by decide);have htk:((ms.take (k+1)).map fun x=>zdm x.m 20001).sum=((ms.take k).map fun x=>zdm x.m 20001).sum+zdm ms[k].m 20001:=by
    rw [tsg hkl,QT,List.sum_append];show _+(zdm ms[k].m 20001+0)=_;rw [UQ]
   have h1:=htake (k+1);subst hq;refine⟨k,rfl,hkl,cmo hcall ?_⟩;rintro e _ ⟨rfl,rfl⟩;refine⟨((((ms.take (k+1)).map fun x=>zdm x.m 20001).sum:Nat):Int),?_,?_⟩
   ·rw [htk,Int.natCast_add];exact zi (by omega)
   exact brN (Uj (by omega)) (nxI (by omega) ⟨k+1,(cvE rfl rfl),⟨hkl,rfl⟩,zdc (by omega)⟩)
  ·have hc:¬ (k:Int)<(ms.length:Int):=dF hc;obtain rfl:k=ms.length:=by omega
   rw [Qx,<- htot];exact⟨(),(cvE rfl rfl),rfl⟩
 rintro _ _ rfl;have hXs:=hbX.size;refine⟨OA×Nat,fun s=>⟨[(8,.slice q ms.length c),(12,.slice s.1 0 s.2)],[]⟩,fun s Z=>OwnS exE 37 X.heap.size Z s.1 s.2 []/\Bw X Z,?_,?_⟩
 ·exact zda (E:=exE) Tryz.underlying89 k37 rfl (by show _=333;exact zbu) rfl tot (by show 2416*tot<=_;omega) (by unfold maxLen;omega) fun Z oZ hbZ sZ=>⟨(some ⟨X.heap.size,0,none⟩,tot),(cvE rfl rfl),oZ,hbZ⟩
 rintro⟨p0,c0⟩ Y ⟨oY,hbY⟩;dsimp only at oY ⊢;refine⟨List zfZ×OA×Nat,fun s=>⟨[(12,.slice s.2.1 s.1.length s.2.2)],[]⟩,fun s Z=>s.1.map (·.1)=zcb p V/\OwnS exE 37 X.heap.size Z s.2.1 s.2.2 s.1/\(∀ x∈s.1,OwnS evE 158 X.heap.size Z x.2.1 x.2.2 x.1.ev)/\Bw X Z,?_,?_⟩
 ·refine⟨Nat×List zfZ×OA×Nat,fun s=>⟨[(8,.slice q ms.length c),(12,.slice s.2.2.1 s.2.1.length s.2.2.2),(57,i64 ms.length),(58,i64 (s.1:Nat))],[]⟩,
   fun s Z=>s.1<=ms.length/\s.2.1.map (·.1)=(ms.take s.1).flatMap (fun x=>zab x.m)/\OwnS exE 37 X.heap.size Z s.2.2.1 s.2.2.2 s.2.1/\(∀ x∈s.2.1,OwnS evE 158 X.heap.size Z x.2.1 x.2.2 x.1.ev)/\Bw X Z,fun s=>ms.length-s.1,(0,[],p0,c0),
   (cvE rfl rfl),⟨Ge _,rfl,oY,fun x hx=>(by cases hx),hbY⟩,?_⟩
  clear oY hbY;rintro⟨k,outs,po,co⟩ Z ⟨hk,hou,oZ,nZ,hbZ⟩;dsimp only at hk hou oZ nZ ⊢;have hZs:=hbZ.size;have oMZ:OwnS zjc 172 w.heap.size Z q c ms:=oM.same fun a ha=>hbZ.block _ (zx oM ha).2.1;have nMZ:∀ x∈ms,NInM w.heap.size (fun k=>w.heap.size<=k) Z x:=fun x hx=>(nM x hx).same fun {α E T c q l} _ _ _ hr=>⟨hr.own.same fun a ha=>hbZ.block _ (zx hr.own ha).2.1,hr.inF⟩;refine biE (fun hc=>?_) fun hc=>?_
  ·have hc:(k:Int)<(ms.length:Int):=dT hc;have hkl:k<ms.length:=by omega
   obtain⟨b,o,hq,hcall⟩:=cnt (lim:=1) hkl oMZ nMZ (by decide) (by decide);obtain⟨x,hx⟩:∃ x,ms[k]=x:=⟨_,rfl⟩;have hxm:x∈ms:=by rw [<- hx];exact gM hkl
   have htk:(ms.take (k+1)).flatMap (fun x=>zab x.m)=(ms.take k).flatMap (fun x=>zab x.m)++zab x.m:=by
    rw [tsg hkl,Kf,hx,KS,Qq,QM]
   rw [hx] at hcall;have hat:zo Z ⟨b,o+k*336,none⟩ (znW x):=by
    obtain⟨b',o',hq',_,hat⟩:=oMZ.row.at hkl;rw [hq] at hq';have:=hat k hkl;simp only [KZ,Uv,Gp] at hq';rw [<- hx,hq'.1,hq'.2];exact this
   have hbX2:b<X.heap.size:=(zx oM hq).2.1;subst hq;refine⟨k,rfl,hkl,cmo hcall ?_⟩;rintro e _ ⟨rfl,rfl⟩;refine biE (fun h=>?_) fun h=>?_
   ·have h:zdm x.m 1=0:=UB (dT h);have hc0:zab x.m=[]:=Gx h;rw [hc0,QM] at htk;exact nxI (by omega) ⟨(k+1,outs,po,co),(cvE rfl rfl),⟨hkl,by rw [hou,htk],oZ,nZ,hbZ⟩,zdc (by omega)⟩
   have h:zdm x.m 1≠0:=fun e=>(dF h) (by rw [e];rfl);have hc1:zab x.m=zfC x.m:=Gw h;rw [hc1] at htk;refine⟨k,rfl,hkl,cmo zr5 ?_⟩;rintro e U ⟨rfl,fU,sU,hbU⟩;have hxM:=nMZ x hxm;have hxB:=hmb x hxm;obtain⟨Rd,hRd⟩:∃ Rd:Nat->Prop,Rd=fun k=>k<X.heap.size\/k=Z.heap.size:=⟨_,rfl⟩;have ltX:∀ {α:Type} {E:Enc α} {T cc:Nat} {r:OA} {ll:List α},RowIn E T w.heap.size (fun k=>w.heap.size<=k) X r cc ll->∀ a,r=some a->Rd a.block:=fun {α E T cc r ll} h a ha=>by rw [hRd];exact .inl (zx h.own ha).2.1
   have hX:=nM x hxm;have hM:MixM Rd U b (o+k*336) x.m x.q x.c x.p1 x.p2 x.p3 x.c1 x.c2 x.c3 x.xs x.ys:=by
    have r:∀ {α:Type} {E:Enc α} {T cc:Nat} {r:OA} {ll:List α},RowIn E T w.heap.size (fun k=>w.heap.size<=k) Z r cc ll->SlR E U r ll:=fun {α E T cc r ll} h=>(h.own.below hbU).row;refine⟨zw hbU hat,r hxM.ev,fun e=>?_,r hxM.r1,hxM.e2,r hxM.r2,fun y hy=>r (hxM.n2 y hy),hxM.e3,r hxM.r3,fun y hy=>r (hxM.n3 y hy),by rw [hRd];exact .inl hbX2,ltX hX.ev,ltX hX.r1,ltX hX.r2,ltX hX.r3,fun y hy=>ltX (hX.n2 y hy),fun y hy=>ltX (hX.n3 y hy)⟩;rcases hxM.ev.own.inv with ⟨_,h,_⟩ | ⟨g,cur,h,_⟩
    ·exact h
    ·rw [e] at h;cases h
   have hRl:∀ k,Rd k->k<U.heap.size:=fun k hk=>by
    rw [hRd] at hk;omega
   have hTU:Tz64M U:=hG.t64.below (hbX.trans ((hbZ.trans (hbU.mono hZs)).mono hXs));have htz:=zaC hG.t64;have hI:=zr6 hM fU (by rw [hRd];exact .inr rfl) hRl hTU (by rw [hRd];left;omega) hxB hxB.ev;have hln:outs.length+(zfC x.m).length<=30000:=by
    have h2:=hQ.len;have h3:(zcb p V)=ms.flatMap (fun x=>zab x.m):=by
     show (jP p V).flatMap zab=_;rw [<- hms,Qp]
    rw [h3] at h2;have h4:ms.flatMap (fun x=>zab x.m)=(ms.take (k+1)).flatMap (fun x=>zab x.m)++(ms.drop (k+1)).flatMap (fun x=>zab x.m):=(by rw [<- Kf,JQ]);rw [h4,htk,<- hou,lap,lap,QQ] at h2;omega
   refine cmo (zk5 (oZ.below hbU) (fun y hy=>(nZ y hy).below hbU) (by omega) hI (Gc _) (fun k hk=>⟨hRl k hk,rfl⟩) (fun k hk=>by rw [hRd] at hk;exact hk) fU (by omega) hln) ?_;rintro e T ⟨⟨new,pn,cn,rfl,zA,oT,nT⟩,hbT⟩;exact nxI (by omega) ⟨(k+1,outs++new,pn,cn),(cvE rfl rfl),⟨hkl,by rw [QT,hou,zA,htk],oT,nT,(hbZ.trans (hbU.mono hZs)).trans hbT⟩,zdc (by omega)⟩
  ·have hc:¬ (k:Int)<(ms.length:Int):=dF hc;obtain rfl:k=ms.length:=by omega
   rw [Qx] at hou;refine⟨(outs,po,co),(cvE rfl rfl),?_,oZ,nZ,hbZ⟩;rw [hou];show ms.flatMap _=(jP p V).flatMap zab;rw [<- hms,Qp]
 rintro⟨outs,po,co⟩ Z ⟨hou,oZ,nZ,hbZ⟩;exact⟨⟨outs,po,co,rfl,hou,oZ.lower hXs,fun x hx=>(nZ x hx).lower hXs⟩,hbX.trans (hbZ.mono hXs)⟩
end
def zp1 (x:InsD):Bool:=(decide (x.op=1)&&decide (x.dst.toNat<8))||((decide (x.op=2)&&(!x.ar||decide (x.an.toNat<8)))||decide (x.op=7))
theorem zrH {x:InsD} (h:zp1 x=true):zdI x:=by
 unfold zp1 at h;simp only [QI,bAT,dE,KJ] at h;rcases h with ⟨h1,h2⟩ | ⟨h1,h2⟩ | h1
 ·exact .inl ⟨h1,h2⟩
 ·refine .inr (.inl ⟨h1,fun h=>?_⟩);rcases h2 with h2 | h2
  ·rw [h] at h2;cases h2
  ·exact h2
 ·exact .inr (.inr h1)
def zpg (locs:Nat) (P:PathD):Bool :=
 decide (P.ev.length<=24)&&((P.ev.all fun e => !(decide (e.k=1)||decide (e.k=2))||decide (e.l.toNat<locs))&&((P.data.all fun p=>decide (p.1<P.ev.length)&&decide (p.2<P.ev.length))&&((P.ctrl.all fun p=>decide (p.1<P.ev.length)&&decide (p.2<P.ev.length))&&((P.rmw.all fun p=>decide (p.1<P.ev.length)&&decide (p.2<P.ev.length)) &&
  (decide (P.data.length<=100000)&&(decide (P.ctrl.length<=100000)&&decide (P.rmw.length<=100000)))))))
theorem zpf {locs:Nat} {P:PathD} (h:zpg locs P=true):PathB locs P:=by
 unfold zpg at h;simp only [bAT,QI,dE,Qk,KJ,Bool.or_eq_false_iff,decide_eq_false_iff_not] at h;obtain⟨h1,h2,h3,h4,h5,h6,h7,h8⟩:=h;refine⟨h1,fun e he hk=>?_,h3,h4,h5,h6,h7,h8⟩;rcases h2 e he with h | h
 ·rcases hk with hk | hk
  ·exact (h.1 hk).elim
  ·exact (h.2 hk).elim
 ·exact h
def zmb (p:Prg) (n:Nat) (V:List UInt8) (most:Nat):Bool :=
 zgR p&&(decide (p.locs.length=p.init.length)&&(decide (1<=p.init.length)&&(decide (p.init.length<=6)&&(zdV p.init&&(decide (zhT p.threads n (ded p.init)=some V)&&(decide (1<=V.length)&&(decide (V.length<=12)&&(zdV V&&(decide ((ded V).length<=12)&&(decide (p.threads.length<=4) &&
  ((p.threads.all fun l=>decide (l.length<=12)&&(l.all zp1&&(jy l 6&&decide ((zaf l (ded V)).length<=4096)))) &&
   (((List.range (p.threads.length+1)).all fun k=>decide (zbU ((p.threads.take k).map fun l=>(zL V l).length)<=4096)) &&
    ((p.threads.all fun l=>(zL V l).all (zpg p.init.length)) &&
     (((zbG ((p.threads.map (zL V)).map List.length)).all fun ds=>(zkk p.init (zbV (p.threads.map (zL V)) ds)).isSome) &&
      (decide ((jP p V).length<=5000)&&((jP p V).all zpq&&(decide (most<=20000)&&(decide (((jP p V).map fun m=>zdm m 20001).sum<=most)&&decide ((zcb p V).length<=30000)))))))))))))))))))
theorem zqh {p:Prg} {n:Nat} {V:List UInt8} {most:Nat} (h:zmb p n V most=true):CandQ p n V most:=by
 unfold zmb at h;simp only [bAT,dE,Qk,Uq] at h;obtain⟨h1,h2,h3,h4,h5,h6,h7,h8,h9,h10,h11,h12,h13,h14,h15,h16,h17,h18,h19,h20⟩:=h;exact⟨h1,h2,h3,h4,h5,h6,h7,h8,h9,h10,h11,fun l hl=>⟨(h12 l hl).1,fun x hx=>zrH ((h12 l hl).2.1 x hx),(h12 l hl).2.2.1,(h12 l hl).2.2.2⟩,fun k hk=>h13 k (by omega),fun l hl P hP=>zpf (h14 l hl P hP),h15,h16,fun m hm=>zrh (h17 m hm),h18,h19,h20⟩
def stI (l v m:UInt8):InsD:=⟨2,0,l,false,v,false,0,0,m,0⟩
def zts (x:ExD):Bool:=decide (x.ev.length<=20)&&(zgr x.po&&(zgr x.rf&&(zgr x.co&&(zgr x.dt&&(zgr x.ct&&zgr x.rm)))))
abbrev lnA (s:Bs):List LineD:=(zV s).1.getD []
def zem:Bs:=[101,109,112,116,121,32,91,82,93,59,112,111,32,97,115,32,120]
def zqQ:Bs:=[101,109,112,116,121,32,99,111,32,97,115,32,120]
def zuf:Bs:=[108,101,116,32,97,32,61,32,98]
def zue:Bs:=[108,101,116,32,112,111,32,61,32,114,102]
def zud:Bs:=[101,109,112,116,121,32,112,111]
def zhM:Bs:=[101,109,112,116,121,32,91,82,93,32,59,32,112,111,32,97,115,32,120,10]
def zj3:Bs:=[97,99,121,99,108,105,99,32,40,112,111,32,124,32,114,102,41,43,32,97,115,32,120,10]
def tmA:Trm := .mk 2 [] [.mk 2 [] [.mk 2 [] [nmT [112,111],nmT [114,102]],nmT [99,111]],nmT [102,114]]
def tmB:Trm := .mk 5 [] [.mk 9 [82] [],nmT [112,111]]
theorem pa2:((jt (lnA zem)).map (·.1)).getD []=zhM:=by kernel_rfl
theorem zvB:(jt (lnA zem)).isSome=true:=by kernel_rfl
theorem pa3:((jt (lnA znk)).map (·.1)).getD []=zj3:=by kernel_rfl
theorem zvA:(jt (lnA znk)).isSome=true:=by kernel_rfl
theorem sm1:zfe (lnA ze9) [⟨1,[111,114,100,101,114],tmA⟩]=true:=by kernel_rfl
theorem sm2:zfe (lnA zem) [⟨3,[120],tmB⟩]=true:=by kernel_rfl
theorem ln4:lnA zqQ=[⟨3,[120],nmT [99,111]⟩]:=by kernel_rfl
def zlQ (s:Bs) (er:Int) (at_:Nat):Bool:=decide ((zV s).2.2=er)&&(decide ((zV s).2.1=at_)&&decide ((zV s).1.getD []=[]))
theorem fa5:zlQ zuf 112 8=true:=by kernel_rfl
theorem fa6:zlQ zue 111 4=true:=by kernel_rfl
theorem fa7:zlQ zud 110 8=true:=by kernel_rfl
def zhv:Prg:=⟨[116],[[120]],[0],[[stI 0 1 0]],1,.mk 0 0 0 0 []⟩
theorem ztP:zmb zhv 5 [0,1] 1=true:=by kernel_rfl
theorem zqg:(zcb zhv [0,1]).length=1:=by kernel_rfl
abbrev zk6:ExD:=(zcb zhv [0,1]).getD 0 (ex0 0)
theorem zsL:zts zk6=true:=by kernel_rfl
theorem zsM:zeS [⟨3,[120],nmT [99,111]⟩] zk6=(false,[120],0):=by kernel_rfl
section
variable {w X Y:Wd}
def MoB (X:Wd) (d:Nat) (s:Bs):Prop:=∃ p cap,X.heap[d]?=some (.cells #[.slice p (lnA s).length cap] 47 (0,0))/\LinsM jL X p (lnA s)/\(lnA s).length<=40
theorem MoB.below {d:Nat} {s:Bs} (h:MoB X d s) (hb:Bw X Y):MoB Y d s:=by
 obtain⟨p,cap,h1,h2,h3⟩:=h;exact⟨p,cap,zb hb h1,h2.below hb,h3⟩
def TeB (X:Wd) (d:Nat) (t:Trm):Prop:=∃ p cap,X.heap[d]?=some (.cells (zd t p cap).toArray 24 (0,0))/\KidsT jL X p t.kids
theorem TeB.below {d:Nat} {t:Trm} (h:TeB X d t) (hb:Bw X Y):TeB Y d t:=by
 obtain⟨p,cap,h1,h2⟩:=h;exact⟨p,cap,zb hb h1,h2.kept hb⟩
structure FndC (X:Wd) (F:List ExD) (xs:List zfZ) (q:OA):Prop where
 e:xs.map (·.1)=F
 row:SlR exE X q xs
 ev:∀ x∈xs,SlR evE X x.2.1 x.1.ev
theorem FndC.below {F:List ExD} {xs:List zfZ} {q:OA} (h:FndC X F xs q) (hb:Bw X Y):FndC Y F xs q:=⟨h.e,h.row.below hb,fun x hx=>(h.ev x hx).below hb⟩
theorem zdr {r:RelD} (h:zgr r=true):zI r.to:=by
 unfold zgr at h;rw [Qk] at h;exact fun i hi=>dT (h i (Uq.2 hi))
theorem zrD {x:ExD} {q:OA} (h:zts x=true) (he:SlR evE X q x.ev):ExV X x q:=by
 unfold zts at h;simp only [bAT,dE] at h;obtain⟨h1,h2,h3,h4,h5,h6,h7⟩:=h;exact⟨he,h1,zdr h2,zdr h3,zdr h4,zdr h5,zdr h6,zdr h7⟩
theorem FndC.one {xs:List zfZ} {q:OA} (h:FndC X (zcb zhv [0,1]) xs q):xs.length=1/\∃ (b o:Nat) (p:OA) (c:Nat),q=some ⟨b,o,none⟩/\b<X.heap.size/\zo X ⟨b,o+0*333,none⟩ (exC zk6 p c)/\ExV X zk6 p:=by
 have hl:xs.length=1:=by
  have:=Gq List.length h.e;rw [QQ,zqg] at this;exact this
 have hix:0<xs.length:=by omega
 obtain⟨b,o,hq,hb,hat⟩:=h.row.at hix;obtain⟨y,hy⟩:∃ y,xs[0]=y:=⟨_,rfl⟩;have hym:y∈xs:=by rw [<- hy];exact gM hix
 have hF:y.1=zk6:=by
  show _=(zcb zhv [0,1]).getD 0 (ex0 0);rw [<- h.e,gDe,KU,gE hix,hy];rfl
 have hatk:=hat 0 hix;rw [hy] at hatk;have hev:=h.ev y hym;obtain⟨y1,p,c⟩:=y;dsimp only at hF hev;subst hF;exact⟨hl,b,o,p,c,hq,hb,hatk,zrD zsL hev⟩
theorem ztO {W:Wd} {bs bi bn bt:Nat} (g1:W.heap[bs]?=some (.cells #[zn [120]] 9 (0,0))) (g2:W.heap[bi]?=some (.cells #[u8 0] 5 (0,0)))
  (g3:W.heap[bn]?=some (.cells (qr.enc (stI 0 1 0)).toArray 96 (0,0))) (g4:W.heap[bt]?=some (.cells #[.slice (some ⟨bn,0,none⟩) 1 1] 97 (0,0))) :
  PrgX W.heap.size W (j0 zhv (some ⟨bs,0,none⟩) 1 (some ⟨bi,0,none⟩) 1 (some ⟨bt,0,none⟩) 1 none 0) zhv:=by
 have rI:RowB zO W.heap.size W (some ⟨bi,0,none⟩) [0] := .inr ⟨bi,0,rfl,hlt g2,za g2⟩;have hx:RowB qr W.heap.size W (some ⟨bn,0,none⟩) [stI 0 1 0] := .inr ⟨bn,0,rfl,hlt g3,by
  have:[stI 0 1 0].flatMap qr.enc=qr.enc (stI 0 1 0):=by rw [KS,Qq,QM]
  rw [this];exact za g3⟩
 have rr:RowB zsQ W.heap.size W (some ⟨bt,0,none⟩) [([stI 0 1 0],some ⟨bn,0,none⟩,1)] := .inr ⟨bt,0,rfl,hlt g4,za g4⟩;have rT:ThrsW W.heap.size W (some ⟨bt,0,none⟩) [[stI 0 1 0]]:=by
  refine⟨[([stI 0 1 0],some ⟨bn,0,none⟩,1)],rfl,rr,fun x h=>?_⟩;obtain rfl:=KA.1 h;exact⟨hx,fun a ha=>by cases ha;exact hlt g3⟩
 refine⟨⟨⟨by show 1<=_;decide,by show 1<=_;decide,fun s hs=>?_,by show 1<=_;decide,by show 1<=_;decide,fun l h=>?_⟩,some ⟨bs,0,none⟩,1,some ⟨bi,0,none⟩,1,some ⟨bt,0,none⟩,1,none,0,rfl,?_,rI,?_,?_,?_⟩,⟨_,_,rfl,rT⟩,⟨_,_,rfl,rI⟩⟩
 ·have hs:s=[120]:=by simpa [zhv] using hs
  rw [hs];decide
 ·have hs:l=[stI 0 1 0]:=by simpa [zhv] using h
  rw [hs];decide
 ·exact .inr ⟨bs,0,rfl,hlt g1,za g1⟩
 ·obtain⟨xs,hxs,hr,hx⟩:=rT;exact⟨xs,hxs,hr,fun x h=>(hx x h).1⟩
 ·exact .mk none [] (by decide) 0 0 (.inl rfl) (fun _=>none) (fun _=>0) (fun i hi=>by simp at hi) (fun i hi=>by simp at hi)
 ·show 1<=1;decide
theorem LinsM.one {k b cap:Nat} {nq:Bs} {t:Trm} {q:OA} (f:X.heap[b]?=some (.cells (zz k nq t q cap).toArray 49 (0,0))) (hk:k<=255) (hn:nq.length<=140737488351232) (ht:t.name.length<=140737488351232) (kk:KidsT jL X q t.kids):LinsM jL X (some ⟨b,0,none⟩) [⟨k,nq,t⟩]:=by
 refine⟨[(⟨k,nq,t⟩,q,cap)],rfl,SlR.of_cells (hlt f) ?_,fun x hx=>?_,fun _ _ _=>trivial⟩
 ·have:[((⟨k,nq,t⟩,q,cap):zcc)].flatMap zg3.enc=zz k nq t q cap:=by rw [KS,Qq,QM];rfl
  rw [this];exact za f
 ·obtain rfl:=KA.1 hx;exact⟨hk,hn,ht,kk⟩
structure GlobA (w:Wd):Prop where
 k:GlobK w
 e:GlobE w
theorem GlobA.below (h:GlobA w) (hb:Bw w X):GlobA X:=⟨h.k.below hb,h.e.below hb⟩
theorem zd2 {s:Bs} (h:Nat.ble s.length 140737488351232=true):s.length<=140737488351232:=JS h
theorem ztU (hG:GlobA w):CB 11 #[] w (.bool true):=by
 refine z6 110 [] (.s .p (.c .p (.c .p (.c .p (.c .p (.c .p (.c .p (.c .p (.c .p (.c .p .p)))))))))) Tryz.func11 ?_;refine⟨Nat,fun d=>⟨[(1,At0 d)],[]⟩,fun d X=>MoB X d ze9/\Bw w X,?_,?_⟩
 ·skip
  refine cmo (zgb (hG.k) ze9 (zd2 rfl)) ?_;rintro e Y ⟨p,cap,rfl,hM,h40,bY⟩;refine zk (X:=Y) (v := .agg #[.slice p (lnA ze9).length cap]) k47 rfl rfl rfl fun Z hbZ fZ sZ=>?_;have mZ:MoB Z Y.heap.size ze9:=⟨p,cap,fZ,(hM.below hbZ).weak fun b _=>trivial,h40⟩;have bZ:=zst bY hbZ;exact⟨Y.heap.size,(cvE rfl rfl),mZ,bZ⟩
 rintro d1 X ⟨m1,b0⟩;refine⟨Nat,fun d=>⟨[(1,At0 d1),(2,At0 d)],[]⟩,fun d X=>MoB X d1 ze9/\MoB X d zem/\Bw w X,?_,?_⟩
 ·skip
  refine cmo (zgb (hG.k.below b0) zem (zd2 rfl)) ?_;rintro e Y ⟨p,cap,rfl,hM,h40,bY⟩;refine zk (X:=Y) (v := .agg #[.slice p (lnA zem).length cap]) k47 rfl rfl rfl fun Z hbZ fZ sZ=>?_;have mZ:MoB Z Y.heap.size zem:=⟨p,cap,fZ,(hM.below hbZ).weak fun b _=>trivial,h40⟩;have bZ:=zst bY hbZ;exact⟨Y.heap.size,(cvE rfl rfl),m1.below bZ,mZ,(zst b0 bZ)⟩
 clear m1 b0 X;rintro d2 X ⟨m1,m2,b0⟩;refine⟨Unit,fun _=>⟨[(1,At0 d1),(2,At0 d2),(3,zn zhM),(4,i64 0)],[]⟩,fun _ X=>MoB X d1 ze9/\MoB X d2 zem/\Bw w X,?_,?_⟩
 ·obtain⟨p,cap,f2,hM,h40⟩:=m2;refine⟨_,rfl,za f2,hlt f2,cmo (ze8 (cap:=cap) (hG.k.below b0) hM (by omega)) ?_⟩;rintro e Y ⟨rfl,bY⟩;exact⟨(),⟨.cons rfl (.cons rfl (.cons (Gq (fun s=>some (zn s)) pa2) (.cons (Gq (fun n=>some (i64 n)) (Gx zvB)) .nil))),rfl⟩,m1.below bY,⟨p,cap,zb bY f2,hM.below bY,h40⟩,(zst b0 bY)⟩
 clear m1 m2 b0 X;rintro _ X ⟨m1,m2,b0⟩;refine⟨Nat,fun d=>⟨[(1,At0 d1),(2,At0 d2),(3,zn zhM),(4,i64 0),(5,At0 d)],[]⟩,fun d X=>MoB X d1 ze9/\MoB X d2 zem/\MoB X d znk/\Bw w X,?_,?_⟩
 ·skip
  refine cmo (zgb (hG.k.below b0) znk (zd2 rfl)) ?_;rintro e Y ⟨p,cap,rfl,hM,h40,bY⟩;refine zk (X:=Y) (v := .agg #[.slice p (lnA znk).length cap]) k47 rfl rfl rfl fun Z hbZ fZ sZ=>?_;have mZ:MoB Z Y.heap.size znk:=⟨p,cap,fZ,(hM.below hbZ).weak fun b _=>trivial,h40⟩;have bZ:=zst bY hbZ;exact⟨Y.heap.size,(cvE rfl rfl),m1.below bZ,m2.below bZ,mZ,(zst b0 bZ)⟩
 clear m1 m2 b0 X;rintro d5 X ⟨m1,m2,m5,b0⟩;refine⟨Unit,fun _=>⟨[(1,At0 d1),(2,At0 d2),(3,zn zhM),(4,i64 0),(6,zn zj3),(7,i64 0)],[]⟩,fun _ X=>MoB X d1 ze9/\MoB X d2 zem/\Bw w X,?_,?_⟩
 ·obtain⟨p,cap,f2,hM,h40⟩:=m5;refine⟨_,rfl,za f2,hlt f2,cmo (ze8 (cap:=cap) (hG.k.below b0) hM (by omega)) ?_⟩;rintro e Y ⟨rfl,bY⟩;exact⟨(),⟨.cons rfl (.cons rfl (.cons rfl (.cons rfl (.cons (Gq (fun s=>some (zn s)) pa3) (.cons (Gq (fun n=>some (i64 n)) (Gx zvA)) .nil))))),rfl⟩,m1.below bY,m2.below bY,(zst b0 bY)⟩
 clear m1 m2 m5 b0 X;rintro _ X ⟨m1,m2,b0⟩;refine⟨Nat,fun d=>⟨[(1,At0 d1),(2,At0 d2),(3,zn zhM),(4,i64 0),(6,zn zj3),(7,i64 0),(8,At0 d)],[]⟩,fun d X=>MoB X d1 ze9/\MoB X d2 zem/\TeB X d tmA/\Bw w X,?_,?_⟩
 ·refine cmo (zgV [112,111]) ?_;rintro e V1 ⟨rfl,v1⟩;refine cmo (zgV [114,102]) ?_;rintro e V2 ⟨rfl,v2⟩;refine cmo (zmq (k:=2) (a:=nmT [112,111]) (b:=nmT [114,102]) .nil .nil (by decide) (by decide)) ?_;rintro e V3 ⟨r3,rfl,k3,v3⟩;refine cmo (zgV [99,111]) ?_;rintro e V4 ⟨rfl,v4⟩;refine cmo (zmq (k:=2) (a := .mk 2 [] [nmT [112,111],nmT [114,102]]) (b:=nmT [99,111]) (k3.kept v4) .nil (by decide) (by decide)) ?_;rintro e V5 ⟨r5,rfl,k5,v5⟩;refine cmo (zgV [102,114]) ?_;rintro e V6 ⟨rfl,v6⟩;refine cmo (zmq (k:=2) (a := .mk 2 [] [.mk 2 [] [nmT [112,111],nmT [114,102]],nmT [99,111]]) (b:=nmT [102,114]) (k5.kept v6) .nil (by decide) (by decide)) ?_;rintro e V7 ⟨r7,rfl,k7,v7⟩;refine zk (X:=V7) (v := .agg (zd tmA r7 2).toArray) k24 rfl rfl rfl fun Z hbZ fZ sZ=>?_;have c2:=zst v1 v2;have c3:=zst c2 v3;have c4:=zst c3 v4;have c5:=zst c4 v5;have c6:=zst c5 v6;have c7:=zst c6 v7;have bZ:=zst c7 hbZ;exact⟨V7.heap.size,(cvE rfl rfl),m1.below bZ,m2.below bZ,⟨r7,2,fZ,k7.kept hbZ⟩,(zst b0 bZ)⟩
 clear m1 m2 b0 X;rintro d8 X ⟨m1,m2,t8,b0⟩;refine⟨List zfZ×OA×Nat,fun s=>⟨[(1,At0 d1),(2,At0 d2),(3,zn zhM),(4,i64 0),(6,zn zj3),(7,i64 0),(8,At0 d8),(9,.slice s.2.1 s.1.length s.2.2),(10,i64 0)],[]⟩,fun s X=>MoB X d1 ze9/\MoB X d2 zem/\TeB X d8 tmA/\FndC X (zcb zhv [0,1]) s.1 s.2.1/\Bw w X,?_,?_⟩
 ·refine⟨⟨by decide,by decide,rfl⟩,[zn [120]],rfl,?_⟩;obtain⟨V1,e1⟩:=nm (X.alloc (.cells [zn [120]].toArray 9));have v1:Bw X V1:=by rw [e1];exact zba _ _
  have f1:V1.heap[X.heap.size]?=some (.cells #[zn [120]] 9 (0,0)):=by rw [e1];exact zA _ _
  rw [<- e1];refine⟨⟨by decide,by decide,rfl⟩,[u8 0],rfl,?_⟩;obtain⟨V2,e2⟩:=nm (V1.alloc (.cells [u8 0].toArray 5));have v2:Bw V1 V2:=by rw [e2];exact zba _ _
  have f2:V2.heap[V1.heap.size]?=some (.cells #[u8 0] 5 (0,0)):=by rw [e2];exact zA _ _
  rw [<- e2];refine⟨_,rfl,qr.enc (stI 0 1 0),by kernel_rfl,?_⟩;refine⟨⟨by decide,by decide,rfl⟩,qr.enc (stI 0 1 0),by kernel_rfl,?_⟩;obtain⟨V3,e3⟩:=nm (V2.alloc (.cells (qr.enc (stI 0 1 0)).toArray 96));have v3:Bw V2 V3:=by rw [e3];exact zba _ _
  have f3:V3.heap[V2.heap.size]?=some (.cells (qr.enc (stI 0 1 0)).toArray 96 (0,0)):=by rw [e3];exact zA _ _
  rw [<- e3];refine⟨⟨by decide,by decide,rfl⟩,[.slice (some ⟨V2.heap.size,0,none⟩) 1 1],rfl,?_⟩;obtain⟨V4,e4⟩:=nm (V3.alloc (.cells [.slice (some ⟨V2.heap.size,0,none⟩) 1 1].toArray 97));have v4:Bw V3 V4:=by rw [e4];exact zba _ _
  have f4:V4.heap[V3.heap.size]?=some (.cells #[.slice (some ⟨V2.heap.size,0,none⟩) 1 1] 97 (0,0)):=by rw [e4];exact zA _ _
  rw [<- e4];refine⟨j0 zhv (some ⟨X.heap.size,0,none⟩) 1 (some ⟨V1.heap.size,0,none⟩) 1 (some ⟨V3.heap.size,0,none⟩) 1 none 0,rfl,?_⟩;have c2:=zst v1 v2;have c3:=zst c2 v3;have c4:=zst c3 v4;have hP:=ztO (W:=V4) (zb v4 (zb v3 (zb v2 f1))) (zb v4 (zb v3 f2)) (zb v4 f3) f4;refine cmo (zsn (B:=V4.heap.size) (n:=5) (V:=[0,1]) (Gc _) hP ((hG.e.below b0).below c4) (zqh ztP)) ?_;rintro e Z ⟨⟨xs,q,c,rfl,h1,h2,h3⟩,bZ⟩;have c5:=zst c4 bZ;exact⟨(xs,q,c),(cvE rfl rfl),m1.below c5,m2.below c5,t8.below c5,⟨h1,h2.row,fun x hx=>(h3 x hx).row⟩,(zst b0 c5)⟩
 clear m1 m2 t8 b0 X;rintro⟨xs,q,c⟩ X ⟨m1,m2,t8,hF,b0⟩;dsimp only at hF ⊢;obtain⟨hl,bb,ob,p,cx,hq,hbb,hcx,hvx⟩:=hF.one;subst hq;refine⟨Unit,fun _=>⟨[(1,At0 d1),(2,At0 d2),(3,zn zhM),(4,i64 0),(6,zn zj3),(7,i64 0),(8,At0 d8),(9,.slice (some ⟨bb,ob,none⟩) 1 c)],[]⟩,fun _ Y=>X=Y,?_,?_⟩
 ·refine Gm (fun h=>Gy (show false=true from h) (by decide)) (fun _=>biE (fun h=>?_) fun _=>?_)
  ·have h:(!decide ((xs.length:Int)=1))=true:=h;rw [hl] at h;cases h
  ·exact⟨(),⟨.cons rfl (.cons rfl (.cons rfl (.cons rfl (.cons rfl (.cons rfl (.cons rfl (.cons (by show some (Value.slice (some ⟨bb,ob,none⟩) xs.length c)=_;rw [hl]) .nil))))))),rfl⟩,rfl⟩
 rintro _ _ rfl;refine⟨Unit,fun _=>⟨[(1,At0 d1),(2,At0 d2),(3,zn zhM),(4,i64 0),(6,zn zj3),(7,i64 0),(8,At0 d8),(11,.bool false),(12,zn [120]),(13,i64 0)],[]⟩,fun _ Y=>MoB Y d1 ze9/\MoB Y d2 zem/\TeB Y d8 tmA/\Bw w Y,?_,?_⟩
 ·have bd:=(Gh X.heap.size X).drew;refine DrawE.ord [] [1,2,3,0,4,5,6,7,8,9,10,11] (by kernel_rfl) ⟨0,rfl,by decide,?_⟩;refine⟨exC zk6 p cx,zH _ _ _,hcx,hbb,cmo (zgb (hG.k.below ((zst b0 bd))) zqQ (zd2 rfl)) ?_⟩;rintro e Y ⟨p4,cap4,rfl,hM,h40,bY⟩;refine⟨bY,?_⟩;have b1:=zst bd bY;have b2:=zst b0 b1;have hh:zeS (lnA zqQ) zk6=(false,[120],0):=by rw [ln4];exact zsM
  have hone:∀ l∈lnA zqQ,l=⟨3,[120],nmT [99,111]⟩:=fun l hl=>by rw [ln4] at hl;exact KA.1 hl
  refine cmo (zml (cap:=cap4) (q:=p) (c:=cx) (hG.k.below b2) (hM.weak fun b _=>trivial) (by omega) (hvx.below b1) ((hG.e.below b2).t64) (fun bb mb l hl _=>by rw [hone l hl];exact zow _ _) (fun l hl h=>by rw [hone l hl] at h;cases h)) ?_;rintro e Z ⟨rfl,bZ⟩;rw [hh];refine⟨bZ,?_⟩;have b3:=zst b1 bZ;exact⟨(),(cvE rfl rfl),m1.below b3,m2.below b3,t8.below b3,(zst b0 b3)⟩
 clear m1 m2 t8 b0 hF hbb hcx hvx X;rintro _ X ⟨⟨p1,k1,f1,hM1,h1⟩,⟨p2,k2,f2,hM2,h2⟩,⟨p8,k8,f8,hK8⟩,b0⟩;have bd:=(Gh X.heap.size X).drew;have bw:=zst b0 bd;refine DrawE.ord [] (List.range 50) (by kernel_rfl) ⟨0,rfl,0,rfl,Gm (fun _=>⟨_,rfl,za (hdr f1),hlt (hdr f1),_,rfl,za (hdr f8),hlt (hdr f8),zz 1 [111,114,100,101,114] tmA p8 k8,rfl,⟨by decide,by decide,rfl⟩,zz 1 [111,114,100,101,114] tmA p8 k8,rfl,?_⟩) (fun h=>Gy (show true=false from h) (by decide))⟩;obtain⟨V1,e1⟩:=nm (X.drew.alloc (.cells (zz 1 [111,114,100,101,114] tmA p8 k8).toArray 49));have v1:Below X.drew.heap.size X.drew V1:=by rw [e1];exact zba _ _
 have g1:V1.heap[X.drew.heap.size]?=some (.cells (zz 1 [111,114,100,101,114] tmA p8 k8).toArray 49 (0,0)):=by rw [e1];exact zA _ _
 rw [<- e1];refine⟨v1,?_⟩;have c1:=zst bd v1;refine⟨_,rfl,cmo (zdG (a:=lnA ze9) (b:=[⟨1,[111,114,100,101,114],tmA⟩]) (c:=k1) (d:=1) (by omega) (by decide) (hM1.below c1) (LinsM.one g1 (by decide) (by decide) (by decide) (hK8.kept c1))) ?_⟩;rintro e V2 ⟨rfl,v2⟩;refine⟨v2,?_⟩;have c2:=zst c1 v2;refine Gm (fun _=>⟨_,rfl,za (zb c2 f2),hlt (zb c2 f2),zd (.mk 9 [82] []) none 0,rfl,cmo (zgV [112,111]) ?_⟩) (fun h=>Gy ((sm1).symm.trans h) (by decide));rintro e V3 ⟨rfl,v3⟩;refine⟨v3,?_⟩;have c3:=zst c2 v3;refine cmo (zmq (k:=5) (a := .mk 9 [82] []) (b:=nmT [112,111]) .nil .nil (by decide) (by decide)) ?_;rintro e V4 ⟨r4,rfl,k4,v4⟩;refine⟨v4,?_⟩;have c4:=zst c3 v4;refine⟨zz 3 [120] tmB r4 2,rfl,⟨by decide,by decide,rfl⟩,zz 3 [120] tmB r4 2,rfl,?_⟩;obtain⟨V5,e5⟩:=nm (V4.alloc (.cells (zz 3 [120] tmB r4 2).toArray 49));have v5:Bw V4 V5:=by rw [e5];exact zba _ _
 have g5:V5.heap[V4.heap.size]?=some (.cells (zz 3 [120] tmB r4 2).toArray 49 (0,0)):=by rw [e5];exact zA _ _
 rw [<- e5];refine⟨v5,?_⟩;have c5:=zst c4 v5;refine⟨_,rfl,cmo (zdG (a:=lnA zem) (b:=[⟨3,[120],tmB⟩]) (c:=k2) (d:=1) (by omega) (by decide) (hM2.below c5) (LinsM.one g5 (by decide) (by decide) (by decide) (k4.kept v5))) ?_⟩;rintro e V6 ⟨rfl,v6⟩;refine⟨v6,?_⟩;have c6:=zst c5 v6;refine Gm (fun _=>⟨_,fun w=>zE _ _ zhM zhM w,Gm (fun _=>⟨_,fun w=>zE _ _ zj3 zj3 w,Gm (fun _=>?_) (fun h=>Gy (((Ut rfl)).symm.trans h) (by decide))⟩) (fun h=>Gy (((Ut rfl)).symm.trans h) (by decide))⟩) (fun h=>Gy ((sm2).symm.trans h) (by decide));have hK6:=hG.k.below ((zst b0 c6));refine cmo (zjg hK6 zuf (zd2 rfl) 112 8) ?_;rintro e V7 ⟨rfl,v7⟩;refine⟨v7,?_⟩;have c7:=zst c6 v7;refine Gm (fun _=>cmo (zjg (hG.k.below ((zst b0 c7))) zue (zd2 rfl) 111 4) ?_) (fun h=>Gy ((fa5).symm.trans h) (by decide));rintro e V8 ⟨rfl,v8⟩;refine⟨v8,?_⟩;have c8:=zst c7 v8;refine Gm (fun _=>cmo (zjg (hG.k.below ((zst b0 c8))) zud (zd2 rfl) 110 8) ?_) (fun h=>Gy ((fa6).symm.trans h) (by decide));rintro e V9 ⟨rfl,v9⟩;refine⟨v9,?_⟩;have c9:=zst c8 v9;exact Gm (fun _=>Gm (fun _=>⟨_,fun w=>zE _ _ [120] [120] w,rb (Ut rfl),(zst b0 c9)⟩) (fun h=>Gy (show true=false from h) (by decide))) (fun h=>Gy ((fa7).symm.trans h) (by decide))
end
def zcV:List LineD->Nat
 | []=>0
 | l::r=>nodesA l.term+zcV r
theorem zoM (a b:List LineD):zcV (a++b)=zcV a+zcV b:=by
 induction a with
 | nil=>rw [QW,zcV,UX]
 | cons l r ih=>rw [Qm,zcV,zcV,ih];omega
def zrB (ls:List LineD):Bool:=ls.all (fun l=>zal 450 l.term)&&(decide (ls.length<=60)&&decide (zcV ls<=1000))
section
variable {w:Wd} {ls:List LineD} {p q:OA} {cap c:Nat} {x:ExD}
theorem zhZ:∀ l:List LineD,(∀ y∈l,zal 450 y.term=true)->zcV l<=225450*l.length
 | [],_=>by rw [zcV];exact Ge _
 | y::r,h=>by
  rw [zcV,Qt];have h1:=zhZ r fun z hz=>h z (JW _ hz);have h2:=zcD _ _ (h y (Kz ..));have h3:=nodesA_le y.term;omega
theorem zvo (hM:LinsM jL w p ls) (hlen:ls.length<=140737488351232) :
  CB 32 #[.agg #[.slice p ls.length cap]] w (.bool (zrB ls)):=by
 refine z6 31 [.agg #[.slice p ls.length cap]] (.c .p (.s .p (.s (.s .p (.b (.l (.s .p (.s .p (.s (.b (.c .p (.s (.s .p .p) .p))) .p)))))) .p))) Tryz.func32 ?_;obtain⟨R,hR⟩:=nm (zrB ls);rw [<- hR];obtain⟨L,hL⟩:=nm (w.heap.size);refine⟨Unit,fun _=>⟨[(1,At0 L)],[]⟩,fun _ X=>X.heap[L]?=some (.cells #[.slice p ls.length cap] 47 (0,0))/\Bw w X,⟨(),⟨.cons (by rw [hL];rfl) .nil,rfl⟩,by rw [hL];exact zA w _,zba _ _⟩,?_⟩;rintro _ X ⟨f,hb⟩;refine⟨_,zc (za f) (i:=0) rfl,Nat×Int,fun y=>⟨[(1,At0 L),(3,i64 y.2),(7,.slice p ls.length cap),(8,i64 (ls.length:Nat)),(9,.int .i64 (y.1:Nat))],[]⟩,fun y X=>X.heap[L]?=some (.cells #[.slice p ls.length cap] 47 (0,0))/\Bw w X/\y.1<=ls.length/\(∀ z∈ls.take y.1,zal 450 z.term=true)/\(y.1<=60->y.2=(zcV (ls.take y.1):Nat)),fun y=>ls.length-y.1,(0,0),(cvE rfl rfl),⟨f,hb,Ge _,(fun z hz=>by rw [Ur] at hz;cases hz),fun _=>by rw [Ur,zcV];rfl⟩,?_⟩;clear f hb X;rintro⟨i,n⟩ X ⟨f,hb,hi,hfl,hn⟩;dsimp only at hi hfl hn ⊢;refine biE (fun hc=>?_) fun hc=>?_
 ·have hc:(i:Int)<(ls.length:Int):=dT hc;have hil:i<ls.length:=by omega
  obtain⟨b1,o1,q1,c1,rfl,e1,s1,_,_,m1,k1⟩:=(hM.below hb).line hil;obtain⟨u,hu⟩:=nm (ls[i]);have hum:u∈ls:=by rw [hu];exact gM hil
  have htk:ls.take (i+1)=ls.take i++[u]:=by rw [hu,tsg hil]
  rw [<- hu] at e1 m1 k1;refine⟨Nat,fun b5=>⟨[(1,At0 L),(3,i64 n),(5,At0 b5),(7,.slice (some ⟨b1,o1,none⟩) ls.length cap),(8,i64 (ls.length:Nat)),(9,.int .i64 (i:Nat))],[]⟩,fun b5 Y=>Y.heap[L]?=some (.cells #[.slice (some ⟨b1,o1,none⟩) ls.length cap] 47 (0,0))/\Bw w Y/\Y.heap[b5]?=some (.cells (zz u.kind u.name u.term q1 c1).toArray 49 (0,0))/\KidsT jL Y q1 u.term.kids,?_,?_⟩
  ·exact⟨i,rfl,hil,_,rfl,e1,s1,zk (X:=X) (v := .agg (zz u.kind u.name u.term q1 c1).toArray) k49 rfl rfl rfl fun Y hbY fY sY=>⟨X.heap.size,(cvE rfl rfl),zb hbY f,zst hb hbY,fY,k1.kept hbY⟩⟩
  clear f hb e1 s1 k1 X;rintro b5 X ⟨f,hb,f5,k1⟩;refine⟨_,rfl,(qz (o:=2) (n:=3) f5:zo X ⟨b5,0+2,none⟩ (zd u.term q1 c1)),hlt f5,cmo (zqD 450 u.term q1 c1 X (by decide) k1) ?_⟩;rintro e Y ⟨rfl,bY⟩;refine biE (fun h=>?_) fun h=>?_
  ·have h:(!zal 450 u.term)=true:=h;have:R=false:=by
    rw [hR];unfold zrB;have:ls.all (fun l=>zal 450 l.term)=false:=KM.2 ⟨u,hum,by rw [zi6 h];decide⟩;rw [this];rfl
   rw [this];exact⟨rfl,zst hb bY⟩
  ·have h:(!zal 450 u.term)=false:=h;have hf:=zi5 h;have hd:=zcD _ _ hf;replace f5:=zb bY f5;refine⟨_,rfl,(qz (o:=2) (n:=3) f5:zo Y ⟨b5,0+2,none⟩ (zd u.term q1 c1)),hlt f5,cmo (zi7 u.term q1 c1 Y (by omega) (k1.kept bY)) ?_⟩;rintro e Z ⟨rfl,bZ⟩;refine⟨_,rfl,nxI (by omega) ⟨(i+1,IntKind.i64.wrap (n+((nodesA u.term:Nat):Int))),(cvE rfl rfl),⟨zb bZ (zb bY f),zst (zst hb bY) bZ,hil,fun z hz=>?_,fun h60=>?_⟩,zdc (by omega)⟩⟩
   ·rw [htk] at hz;rcases QU.1 hz with hz | hz
    ·exact hfl z hz
    ·rw [KA.1 hz];exact hf
   ·have h60:i+1<=60:=h60;have e0:=hn (by omega);show IntKind.i64.wrap (n+((nodesA u.term:Nat):Int))=((zcV (ls.take (i+1)):Nat):Int);have hs:=zhZ (ls.take i) hfl;have hl2:(ls.take i).length<=60:=(by rw [Qv];omega);have h3:=nodesA_le u.term;have hs2:225450*(ls.take i).length<=225450*60:=Us (Gc _) hl2;rw [htk,zoM,zcV,zcV,UQ,e0];exact (zi (by omega)).trans (by omega)
 ·have hc:¬ (i:Int)<(ls.length:Int):=dF hc;have hil:i=ls.length:=by omega
  rw [hil,Qx] at hfl hn;have hall:ls.all (fun l=>zal 450 l.term)=true:=Qk.2 hfl;have hR:R=(decide (ls.length<=60)&&decide (zcV ls<=1000)):=by rw [hR];unfold zrB;rw [hall,Uz]
  refine⟨_,zc (za f) (i:=0) rfl,biE (fun h=>?_) fun h=>?_⟩
  ·have h:(ls.length:Int)<=60:=dT h;have e0:=hn (by omega);rw [Ut (p:=ls.length<=60) (by omega),Uz] at hR;refine⟨rb ?_,hb⟩;rw [hR,e0];show decide (((zcV ls:Nat):Int)<=1000)=_;rw [QH];omega
  ·have h:¬ (ls.length:Int)<=60:=dF h;rw [Uj (p:=ls.length<=60) (by omega),Ul] at hR;exact⟨rb hR.symm,hb⟩
end
section
variable {s:Bs}
def FitT (s:Bs) (t:Tk):Prop:=(1<=t.text.length->t.at_+t.text.length<=s.length)/\(t.kind≠1->t.at_<s.length)/\(t.kind=2->1<=t.text.length)
theorem zbE (s:Bs) (i:Nat):FitT s (zr s i):=by
 have h2:=zh4 (s:=s) (i:=i);unfold zr at h2 ⊢;obtain⟨a,ha⟩:=nm (zbL s i);rw [<- ha] at h2 ⊢;by_cases h:a<s.length
 ·exact⟨fun _=>zmr (by omega),fun _=>by rw [zoG];exact h,h2⟩
 ·have e:s[a]?=none:=JJ (by omega);have ht:qW s a=⟨1,[],a⟩:=by unfold qW;rw [e]
  rw [ht];exact⟨fun h=>Gy (show 1<=0 from h) (by decide),fun h=>Gy rfl h,fun h=>Gy (show 1=2 from h) (by decide)⟩
theorem FitT.mo {a b:PS} (h:FitT s a.tok) (k:MoS s a b):FitT s b.tok:=by
 rcases k.2.2 with e | ⟨i,e⟩
 ·rw [e];exact h
 ·rw [e];exact zbE s i
def zcg (s:Bs) (st:PS):Nat:=s.length-st.tok.at_
theorem zlr {a b:PS} (h:MoS s a b):zcg s b<=zcg s a:=by have:=h.1;unfold zcg;omega
theorem zgC {st:PS} (hf:FitT s st.tok) (h:1<=st.tok.text.length):zcg s (zN (zr s) st)+1<=zcg s st:=by
 have:=hf.1 h;have:=zii s st;unfold zcg;omega
theorem za8 {st:PS} {t:Bs} (h:isP st t=true):st.tok.text=t:=by
 unfold isP at h;rw [bAT] at h;exact dT h.2
theorem zly {st:PS} (h:zX st≠0):1<=st.tok.text.length:=by
 unfold zX at h
 split at h
 ·rename_i e;rw [za8 e];decide
 split at h
 ·rename_i e;rw [za8 e];decide
 split at h
 ·rename_i e;rw [za8 e];decide
 split at h
 ·rename_i e;rw [za8 e];decide
 ·exact Gy rfl h
theorem zlu {st:PS} (h:zad st≠0):1<=st.tok.text.length:=by
 unfold zad at h
 split at h
 ·rename_i e;rw [za8 e];decide
 split at h
 ·rename_i e;rw [za8 e];decide
 split at h
 ·rename_i e;rw [za8 e];decide
 ·exact Gy rfl h
theorem zgm {st st2:PS} (h:jf (zr s) st=(false,st2)):st2.e≠0:=by
 unfold jf at h
 split at h
 ·obtain⟨_,rfl⟩:=Gf h;show (5:Int)≠0;decide
 ·cases h
theorem znV {st st2:PS} (h:jf (zr s) st=(true,st2)):st2.tok=(zN (zr s) st).tok:=by
 unfold jf at h
 split at h
 ·cases h
 ·obtain⟨_,rfl⟩:=Gf h;rfl
theorem zdC {k:Nat} {t:Bs} {st st2:PS} (h:zY (zr s) k t st=(false,st2)):st2.e≠0:=by
 unfold zY at h
 split at h
 ·obtain⟨_,rfl⟩:=Gf h;show (110:Int)≠0;decide
 ·cases h
theorem zmY {used:Bs->Bool} {st st2:PS} (h:q9 (zr s) used st=(none,st2)):st2.e≠0:=by
 unfold q9 at h
 split at h
 ·obtain⟨_,rfl⟩:=Gf h;show (110:Int)≠0;decide
 split at h
 ·obtain⟨_,rfl⟩:=Gf h;show (111:Int)≠0;decide
 ·cases h
theorem zp5 {l:LineD} {st st2:PS} (h:zhQ l st=(none,st2)):st2.e≠0:=by
 unfold zhQ at h
 split at h
 ·obtain⟨_,rfl⟩:=Gf h;show (110:Int)≠0;decide
 ·cases h
theorem zmX:∀ f,(∀ least st,FitT s st.tok->4*zcg s st+3<=f->∀ st2,termP (zr s) f least st=(none,st2)->st2.e≠0)/\(∀ least t st,FitT s st.tok->4*zcg s st+1<=f->∀ st2,moreP (zr s) f least t st=(none,st2)->st2.e≠0) /\
  (∀ st,FitT s st.tok->4*zcg s st+2<=f->∀ st2,tightP (zr s) f st=(none,st2)->st2.e≠0)/\(∀ t st,FitT s st.tok->4*zcg s st+1<=f->∀ st2,postsP (zr s) f t st=(none,st2)->st2.e≠0)/\(∀ st,FitT s st.tok->4*zcg s st+1<=f->∀ st2,simpleP (zr s) f st=(none,st2)->st2.e≠0)
 | 0=>⟨fun _ _ _ h=>Gy h (by omega),fun _ _ _ _ h=>Gy h (by omega),fun _ _ h=>Gy h (by omega),fun _ _ _ h=>Gy h (by omega),fun _ _ h=>Gy h (by omega)⟩
 | f+1=>by
  obtain⟨h1,h2,h3,h4,h5⟩:=zmX f;obtain⟨m1,m2,m3,m4,m5⟩:=zaZ (s:=s) f;have node:∀ {st st2:PS},FitT s st.tok->1<=st.tok.text.length->jf (zr s) st=(true,st2)->FitT s st2.tok/\zcg s st2+1<=zcg s st:=fun {st st2} hf ht h=>by
   have e:=znV h;have hr:=zgC hf ht;unfold zcg at hr ⊢;rw [e];exact⟨zbE s _,hr⟩
  refine⟨fun least st hf hn st2 h=>?_,fun least t st hf hn st2 h=>?_,fun st hf hn st2 h=>?_,fun t st hf hn st2 h=>?_,fun st hf hn st2 h=>?_⟩
  ·rw [termP] at h
   split at h <;> rename_i e
   ·obtain⟨_,rfl⟩:=Gf h;exact h3 st hf (by omega) _ e
   ·have hm:=m3 st;rw [e] at hm;have hr:=zlr hm;exact h2 _ _ _ (hf.mo hm) (by omega) _ h
  ·rw [moreP] at h
   split at h
   ·cases h
   ·rename_i hc;have ht:=zly (st:=st) fun h0=>hc (.inl h0)
    split at h <;> rename_i st3 e
    ·obtain⟨_,rfl⟩:=Gf h;exact zgm e
    ·obtain⟨hf2,hr2⟩:=node hf ht e
     split at h <;> rename_i e2
     ·obtain⟨_,rfl⟩:=Gf h;exact h1 _ _ hf2 (by omega) _ e2
     ·have hm:=m1 (zX st) st3;rw [e2] at hm;have hr:=zlr hm;exact h2 _ _ _ (hf2.mo hm) (by omega) _ h
  ·rw [tightP] at h
   split at h <;> rename_i e
   ·obtain⟨_,rfl⟩:=Gf h;exact h5 st hf (by omega) _ e
   ·have hm:=m5 st;rw [e] at hm;have hr:=zlr hm;exact h4 _ _ (hf.mo hm) (by omega) _ h
  ·rw [postsP] at h
   split at h
   ·cases h
   ·rename_i hc;have ht:=zlu hc
    split at h <;> rename_i e
    ·obtain⟨_,rfl⟩:=Gf h;exact zgm e
    ·obtain⟨hf2,hr2⟩:=node hf ht e;exact h4 _ _ hf2 (by omega) _ h
  ·rw [simpleP] at h
   split at h
   ·split at h
    ·obtain⟨_,rfl⟩:=Gf h;show (112:Int)≠0;decide
    ·split at h <;> rename_i e
     ·cases h
     ·obtain⟨_,rfl⟩:=Gf h;exact zgm e
   ·split at h
    ·split at h <;> rename_i e
     ·obtain⟨_,rfl⟩:=Gf h;exact zgm e
     ·split at h
      ·obtain⟨_,rfl⟩:=Gf h;show (110:Int)≠0;decide
      ·split at h
       ·obtain⟨_,rfl⟩:=Gf h;show (112:Int)≠0;decide
       ·split at h <;> rename_i e2
        ·cases h
        ·obtain⟨_,rfl⟩:=Gf h;exact zdC e2
    ·split at h
     ·rename_i hc;have ht:1<=st.tok.text.length:=by
       rw [bAT] at hc;rw [za8 hc.1];decide
      have hr:zcg s (zN (zr s) { st with deep:=st.deep+1 })+1<=zcg s st:=zgC (st:={ st with deep:=st.deep+1 }) hf ht;have ht1:=h1 1 (zN (zr s) { st with deep:=st.deep+1 }) (zbE s _) (by omega)
      split at h <;> rename_i e
      ·obtain⟨_,rfl⟩:=Gf h;have k:=ht1 _ e;exact k
      ·split at h <;> rename_i e2
       ·cases h
       ·obtain⟨_,rfl⟩:=Gf h;exact zdC e2
     ·obtain⟨_,rfl⟩:=Gf h;show (110:Int)≠0;decide
theorem zrM {f many:Nat} {st st2:PS} (hf:FitT s st.tok) (hn:4*s.length+3<=f) (h:zak (zr s) f many st=(none,st2)):st2.e≠0:=by
 have rl:∀ a:PS,zcg s a<=s.length:=fun a=>Nat.sub_le _ _;have ht:∀ (least:Nat) (a b:PS),FitT s a.tok->termP (zr s) f least a=(none,b)->b.e≠0:=fun least a b ha e=>(zmX f).1 least a ha (by have:=rl a;omega) b e;unfold zak at h
 split at h
 ·obtain⟨_,rfl⟩:=Gf h;show (110:Int)≠0;decide
 split at h
 ·obtain⟨_,rfl⟩:=Gf h;show (5:Int)≠0;decide
 split at h
 ·split at h <;> rename_i st9 e
  ·obtain⟨_,rfl⟩:=Gf h;exact zmY e
  ·have hm:=zeJ (s:=s) (fun s=>jH s||st.lets s) (zN (zr s) st);rw [e] at hm;have f2:=(zbE s _:FitT s (zN (zr s) st).tok).mo hm
   split at h <;> rename_i st3 e2
   ·obtain⟨_,rfl⟩:=Gf h;exact zdC e2
   ·have hx:=zaU (s:=s) 6 [61] st9;rw [e2] at hx;have f3:=f2.mo hx
    split at h <;> rename_i e3
    ·obtain⟨_,rfl⟩:=Gf h;have k:=ht _ _ _ f3 e3;exact k
    ·exact zp5 h
 ·split at h <;> rename_i e
  ·obtain⟨_,rfl⟩:=Gf h;exact ht _ _ _ (zbE s _) e
  ·split at h <;> rename_i e2
   ·obtain⟨_,rfl⟩:=Gf h;exact zdC e2
   ·split at h <;> rename_i e3
    ·obtain⟨_,rfl⟩:=Gf h;have k:=zmY e3;exact k
    ·exact zp5 h
theorem zhn {f:Nat} (hn:4*s.length+3<=f):∀ (n:Nat) (l:List LineD) (st:PS) (m:Nat) (e:Int),FitT s st.tok->zcg s st<n->jS (zr s) f n l st=(none,m,e)->e≠0
 | 0,l,st,m,e,hf,hr,h=>Gy hr (by omega)
 | n+1,l,st,m,e,hf,hr,h=>by
  rw [jS] at h
  split at h
  ·cases h
  ·rename_i hk;have ha:=hf.2.1 hk
   split at h
   ·rename_i hk2;have hr2:=zgC hf (hf.2.2 hk2);exact zhn hn n _ _ m e (zbE s _) (by omega) h
   ·split at h <;> rename_i st3 e2
    ·simp only [UJ,Gt] at h;obtain⟨_,rfl⟩:=h;exact zrM hf hn e2
    ·have ho:=zmR e2;have hm:=zmO (s:=s) f l.length st;rw [e2] at hm;exact zhn hn n _ st3 m e (hf.mo hm) (by unfold zcg at hr ⊢;omega) h
theorem zg2 {sc:Nat->Tk} {f:Nat}:∀ (n:Nat) (l:List LineD) (st:PS) (m:Nat) (e:Int) (r:List LineD),jS sc f n l st=(some r,m,e)->e=0
 | 0,l,st,m,e,r,h=>by rw [jS] at h;cases h
 | n+1,l,st,m,e,r,h=>by
  rw [jS] at h
  split at h
  ·simp only [UJ] at h;exact h.2.2.symm
  split at h
  ·exact zg2 n _ _ m e r h
  split at h
  ·cases h
  ·exact zg2 n _ _ m e r h
theorem znL (s:Bs):(zV s).1=none↔(zV s).2.2≠0:=by
 unfold zV
 split
 ·exact⟨fun _=>by show (3:Int)≠0;decide,fun _=>rfl⟩
 ·rename_i hl;rcases h:jS (zr s) 40000 10000 [] (zfc s) with ⟨r,m,e⟩
  cases r with
  | none =>
   refine⟨fun _=>zhn (s:=s) (by omega) _ _ _ m e (zbE s 0) ?_ h,fun _=>rfl⟩;unfold zcg;omega
  | some r =>
   have:=zg2 _ _ _ m e r h;exact⟨fun h=>(by cases h),fun h=>Gy this h⟩
end
end Go.Proofs.YtnadlhpkpnfmbaaGreatDoor
namespace Go.Proofs.YtnadlhpkpnfmbaaGreatDoor
open Go.Vc
inductive Pce where
 | sp
 | nl
 | tok (k:Nat) (t:Bs)
def rnd (σ γ:Bs) (n:Nat):List Pce->Bs
 | []=>[]
 | .sp::r=>σ++rnd σ γ n r
 | .nl::r=>γ++10::(List.replicate n 10++rnd σ γ n r)
 | .tok _ t::r=>t++rnd σ γ n r
def tks (n:Nat):List Pce->List (Nat×Bs)
 | []=>[(1,[])]
 | .sp::r=>tks n r
 | .nl::r=>(2,[10])::(List.replicate n (2,[10])++tks n r)
 | .tok k t::r=>(k,t)::tks n r
def qY (sc:Nat->Tk):Tk->List (Nat×Bs)->Prop
 | _,[]=>True
 | tk,(k,t)::r=>tk.kind=k/\tk.text=t/\qY sc (sc (tk.at_+t.length)) r
def zou (t:Bs):Prop:=(∃ c r,t=c::r/\jq c=true)/\∀ c∈t,z8 c=true
def OkT (k:Nat) (t:Bs):Prop :=
 (k=3/\zg6 t=true/\zou t)\/(k=4/\zg6 t=false/\t.length<=16/\zou t)\/(k=5/\t.length<=16/\t≠[]/\∀ c∈t,qm c=true)\/(k=6/\((∃ c∈zdK,t=[c])\/t=[94,45,49]))
def zuq:List Pce->Prop
 | .tok k _::_=>k=6
 | _=>True
def wfP:List Pce->Prop
 | []=>True
 | .tok k t::r=>OkT k t/\(k=6\/zuq r)/\wfP r
 | _::r=>wfP r
theorem zbI:∀ {p q:List Pce},wfP p->wfP q->zuq q->wfP (p++q)
 | [],q,_,h,_=>h
 | .tok k t::r,q,h,hq,hs=>⟨h.1,by
   rcases h.2.1 with e | e
   ·exact .inl e
   ·cases r with
    | nil=>exact .inr hs
    | cons a r=>cases a <;> exact .inr e,zbI h.2.2 hq hs⟩
 | .sp::r,q,h,hq,hs=>zbI (p:=r) h hq hs
 | .nl::r,q,h,hq,hs=>zbI (p:=r) h hq hs
theorem zf9 {p:UInt8->Bool} (pre:Bs) {x y:Bs} (hx:∀ c∈x,p c=true) (hy:∀ c,y.head?=some c->p c=false):zbj p (pre++(x++y)) pre.length=x:=by
 unfold zbj;rw [Un,List.takeWhile_append_of_pos hx]
 cases y with
 | nil=>simp
 | cons c r=>rw [Km,hy c rfl];simp
theorem zf6 (pre:Bs) {b g y:Bs} (hb:∀ c∈b,zW c=true) (hg:g=[]\/g.head?=some 35/\∀ c∈g,zcS c=true) (hy:if g=[] then ∀ c,y.head?=some c->zW c=false/\c≠35 else ∀ c,y.head?=some c->c=10):zbL (pre++(b++(g++y))) pre.length=pre.length+b.length+g.length:=by
 have h1:qJ zW (pre++(b++(g++y))) pre.length=pre.length+b.length:=by
  unfold qJ;rw [zf9 pre hb fun c hc=>?_];rcases hg with rfl | ⟨hg,-⟩
  ·rw [Gx rfl] at hy;exact (hy c hc).1
  ·cases g with
   | nil=>cases hg
   | cons d g=>simp only [List.head?_cons,KZ,Qm] at hg hc;rw [<- hc,hg];decide
 have h2:(pre++(b++(g++y)))[pre.length+b.length]?=(g++y).head?:=by
  rw [<- KO,Jl (by simp),lap,UV,List.head?_eq_getElem?]
 unfold zbL;rw [h1,h2];rcases hg with rfl | ⟨hg,hn⟩
 ·rw [Gx rfl] at hy;rw [QW,Gw fun e=>(hy 35 e).2 rfl];rfl
 ·cases g with
  | nil=>cases hg
  | cons d g =>
   rw [Gw (by simp)] at hy;rw [Gx (by simpa using hg)];unfold qJ;rw [show pre++(b++(d::g++y))=(pre++b)++(d::g++y) by simp,show pre.length+b.length=(pre++b).length by simp,zf9 (pre++b) hn fun c hc=>by rw [hy c hc];decide]
theorem zqT (pre:Bs):qW pre pre.length=⟨1,[],pre.length⟩:=by
 unfold qW;rw [JJ (Gc _)]
theorem zhg (pre:Bs) (c:UInt8) (y:Bs):(pre++c::y)[pre.length]?=some c:=by simp
theorem zoF (pre y:Bs):qW (pre++10::y) pre.length=⟨2,[10],pre.length⟩:=by
 unfold qW;rw [zhg];rfl
theorem zgX {c:UInt8} (h:jq c=true):c≠10/\zW c=false/\c≠35:=by
 refine⟨?_,?_,?_⟩
 ·rintro rfl;exact Gy h (by decide)
 ·cases e:zW c with
  | false=>rfl
  | true =>
   unfold zW at e;rw [QI,dE,dE] at e;rcases e with rfl | rfl <;> exact Gy h (by decide)
 ·rintro rfl;exact Gy h (by decide)
theorem zjF {c:UInt8} (h:qm c=true):c≠10/\jq c=false/\zW c=false/\c≠35:=by
 refine⟨?_,?_,?_,?_⟩
 ·rintro rfl;exact Gy h (by decide)
 ·unfold qm jq at *;rw [bAT,dE,dE] at h;rw [Uj (by omega)];rfl
 ·cases e:zW c with
  | false=>rfl
  | true =>
   unfold zW at e;rw [QI,dE,dE] at e;rcases e with rfl | rfl <;> exact Gy h (by decide)
 ·rintro rfl;exact Gy h (by decide)
theorem zmu:∀ c∈zdK,c≠10/\jq c=false/\qm c=false/\zW c=false/\c≠35:=by decide
theorem zra {k:Nat} {t:Bs} (h:OkT k t) (y:Bs):∀ c,(t++y).head?=some c->zW c=false/\c≠35:=by
 intro c hc;rcases h with ⟨-,-,⟨d,r,rfl,hd⟩,-⟩ | ⟨-,-,-,⟨d,r,rfl,hd⟩,-⟩ | ⟨-,-,hne,hu⟩ | ⟨-,⟨d,hd,rfl⟩ | rfl⟩
 ·cases hc;exact (zgX hd).2
 ·cases hc;exact (zgX hd).2
 ·cases t with
  | nil=>exact Gy rfl hne
  | cons d r=>cases hc;exact (zjF (hu _ Kz)).2.2
 ·cases hc;exact (zmu _ hd).2.2.2
 ·cases hc;decide
theorem zsP (pre:Bs) {k:Nat} {t y:Bs} (h:OkT k t) (hy:k=6\/∀ c,y.head?=some c->z8 c=false/\qm c=false):qW (pre++(t++y)) pre.length=⟨k,t,pre.length⟩:=by
 have wd:zou t->k≠6->qW (pre++(t++y)) pre.length=if zg6 t then ⟨3,t,pre.length⟩ else jA 4 t pre.length:=fun hw hk=>by
  have hr:=zf9 pre (p:=z8) hw.2 fun c hc=>((hy.resolve_left hk) c hc).1;obtain⟨d,r,rfl,hd⟩:=hw.1;unfold qW;rw [hr,show d::r++y=d::(r++y) from rfl,zhg];dsimp only;rw [Gw (zgX hd).1,Gx hd]
 rcases h with ⟨rfl,hk,hw⟩ | ⟨rfl,hk,hl,hw⟩ | ⟨rfl,hl,hne,hu⟩ | ⟨rfl,⟨d,hd,rfl⟩ | rfl⟩
 ·rw [wd hw (by decide),hk];rfl
 ·rw [wd hw (by decide),hk,Gw (by decide)];unfold jA;rw [Gw (by omega)]
 ·have hr:=zf9 pre (p:=qm) hu fun c hc=>((hy.resolve_left (by decide)) c hc).2
  cases t with
  | nil=>exact Gy rfl hne
  | cons d r =>
   have hd:=zjF (hu d Kz);unfold qW;rw [hr,show d::r++y=d::(r++y) from rfl,zhg];dsimp only;rw [Gw hd.1,hd.2.1,Gw (by decide),Gx (hu d Kz)];unfold jA;rw [Gw (show ¬ (d::r).length > 16 by omega)]
 ·obtain⟨h1,h2,h3,-⟩:=zmu d hd;unfold qW;rw [show [d]++y=d::y from rfl,zhg];dsimp only;rw [Gw h1,h2,h3,Gw (by decide),Gw (by decide),Gx hd]
 ·unfold qW;rw [show ([94,45,49]:Bs)++y=94::45::49::y from rfl,zhg,Un];rfl
def zsH (γ:Bs):Prop:=γ=[]\/∃ b g,γ=b++g/\(∀ c∈b,zW c=true)/\g.head?=some 35/\∀ c∈g,zcS c=true
theorem zks (a b:Bs):(a++b).length=a.length+b.length:=lap
theorem zf5 {σ γ:Bs} {n:Nat} (hs:∀ c∈σ,zW c=true) (hσ:σ≠[]) (hg:zsH γ):∀ p,wfP p->∀ pre b,(∀ c∈b,zW c=true)->qY (zr (pre++(b++rnd σ γ n p))) (zr (pre++(b++rnd σ γ n p)) pre.length) (tks n p)
 | [],_,pre,b,hb=>by
  have h:=zf6 pre (b:=b) (g:=[]) (y:=[]) hb (.inl rfl) (by rw [Gx rfl];intro c hc;cases hc);unfold zr rnd tks;rw [show b++([]++[])=b++([]:Bs) from rfl] at h;rw [h,show pre.length+b.length+([]:Bs).length=(pre++(b++[])).length by simp,zqT];exact⟨rfl,rfl,trivial⟩
 | .sp::p,hw,pre,b,hb=>by
  have h:=zf5 (n:=n) hs hσ hg p hw pre (b++σ) fun c hc=>(QU.1 hc).elim (hb c) (hs c);rw [KO] at h;exact h
 | .nl::p,hw,pre,b,hb=>by
  have run:∀ m pre,qY (zr (pre++(List.replicate m 10++rnd σ γ n p))) (zr (pre++(List.replicate m 10++rnd σ γ n p)) pre.length) (List.replicate m (2,[10])++tks n p):=by
   intro m
   induction m with
   | zero=>exact fun pre=>zf5 hs hσ hg p hw pre [] (by simp)
   | succ m ih =>
    intro pre;have e:pre++(List.replicate (m+1) 10++rnd σ γ n p)=(pre++[10])++(List.replicate m 10++rnd σ γ n p):=(by simp [List.replicate_succ]);have h:=ih (pre++[10]);rw [<- e] at h;have hk:=zf6 pre (b:=[]) (g:=[]) (y:=List.replicate (m+1) 10++rnd σ γ n p) (by simp) (.inl rfl) (by rw [Gx rfl];intro c hc;rw [List.replicate_succ] at hc;cases hc;decide);have ht:zr (pre++(List.replicate (m+1) 10++rnd σ γ n p)) pre.length=⟨2,[10],pre.length⟩:=by
     unfold zr;rw [show pre++(List.replicate (m+1) 10++rnd σ γ n p)=pre++([]++([]++(List.replicate (m+1) 10++rnd σ γ n p))) from rfl,hk];exact zoF pre _
    rw [ht,List.replicate_succ];refine⟨rfl,rfl,?_⟩;rw [lap] at h;exact h
  obtain⟨b',g,hγ,hb',hgg⟩:∃ b' g,γ=b'++g/\(∀ c∈b',zW c=true)/\(g=[]\/g.head?=some 35/\∀ c∈g,zcS c=true):=by
   rcases hg with e | ⟨b',g,e,h1,h2⟩
   ·exact⟨[],[],e,by simp,.inl rfl⟩
   ·exact⟨b',g,e,h1,.inr h2⟩
  have e:pre++(b++rnd σ γ n (.nl::p))=pre++((b++b')++(g++10::(List.replicate n 10++rnd σ γ n p))):=by rw [rnd,hγ];simp
  have e2:pre++(b++rnd σ γ n (.nl::p))=(pre++(b++b')++g)++10::(List.replicate n 10++rnd σ γ n p):=by rw [e];simp
  have e3:pre++(b++rnd σ γ n (.nl::p))=(pre++(b++b')++g++[10])++(List.replicate n 10++rnd σ γ n p):=by rw [e];simp
  have hk:=zf6 pre (b:=b++b') (g:=g) (y:=10::(List.replicate n 10++rnd σ γ n p)) (fun c hc=>(QU.1 hc).elim (hb c) (hb' c)) hgg (by
   split
   ·intro c hc;cases hc;decide
   ·intro c hc;cases hc;rfl)
  have h:=run n (pre++(b++b')++g++[10]);rw [<- e3] at h;have ht:zr (pre++(b++rnd σ γ n (.nl::p))) pre.length=⟨2,[10],(pre++(b++b')++g).length⟩:=by
   unfold zr;rw [<- e] at hk;rw [hk,e2,show pre.length+(b++b').length+g.length=(pre++(b++b')++g).length by simp [UH]];exact zoF _ _
  rw [ht,tks];refine⟨rfl,rfl,?_⟩;rw [zks _ [10]] at h;exact h
 | .tok k t::p,hw,pre,b,hb=>by
  have e:pre++(b++rnd σ γ n (.tok k t::p))=pre++(b++([]++(t++rnd σ γ n p))):=rfl;have e2:pre++(b++rnd σ γ n (.tok k t::p))=(pre++b)++(t++rnd σ γ n p):=by rw [e];simp
  have e3:pre++(b++rnd σ γ n (.tok k t::p))=(pre++b++t)++([]++rnd σ γ n p):=by rw [e];simp
  have hk:=zf6 pre (b:=b) (g:=[]) (y:=t++rnd σ γ n p) hb (.inl rfl) (by rw [Gx rfl];exact zra hw.1 _);have hy:k=6\/∀ c,(rnd σ γ n p).head?=some c->z8 c=false/\qm c=false:=by
   rcases hw.2.1 with h | h
   ·exact .inl h
   ·refine .inr ?_
    match p,h,hw.2.2 with
    | [],_,_=>intro c hc;cases hc
    | .sp::r,_,_ =>
     intro c hc;have:c∈σ:=by
      cases σ with
      | nil=>exact Gy rfl hσ
      | cons d σ=>cases hc;exact Kz
     have:=hs c this;unfold zW at this;rw [QI,dE,dE] at this;rcases this with rfl | rfl <;> decide
    | .nl::r,_,_ =>
     intro c hc;rcases hg with rfl | ⟨b',g,rfl,hb',hg1,-⟩
     ·cases hc;decide
     ·cases b' with
      | nil =>
       cases g with
       | nil=>cases hg1
       | cons d g=>cases hg1;cases hc;decide
      | cons d b' =>
       cases hc
       have:=hb' c Kz;unfold zW at this;rw [QI,dE,dE] at this;rcases this with rfl | rfl <;> decide
    | .tok k' t'::r,h,hr =>
     intro c hc;have h:k'=6:=h;rcases hr.1 with ⟨e,-⟩ | ⟨e,-⟩ | ⟨e,-⟩ | ⟨-,⟨d,hd,rfl⟩ | rfl⟩
     ·omega
     ·omega
     ·omega
     ·cases hc
      revert hd
      exact (show ∀ c∈zdK,z8 c=false/\qm c=false by decide) c
     ·cases hc;decide
  have ht:zr (pre++(b++rnd σ γ n (.tok k t::p))) pre.length=⟨k,t,(pre++b).length⟩:=by
   unfold zr;rw [<- e] at hk;rw [hk,e2,show pre.length+b.length+([]:Bs).length=(pre++b).length by simp];exact zsP _ hw.1 hy
  have h:=zf5 (n:=n) hs hσ hg p hw.2.2 (pre++b++t) [] (by simp);rw [<- e3] at h;rw [ht,tks];refine⟨rfl,rfl,?_⟩;rw [zks _ t] at h;exact h
def zb2 (least:Nat) (t:Trm):Prop:=qI t.kind.toNat=0\/qI t.kind.toNat ≥ least
instance (least:Nat) (t:Trm):Decidable (zb2 least t):=by unfold zb2;exact inferInstance
def zbv (least:Nat) (t:Trm) (p:List Pce):List Pce:=if zb2 least t then p else .tok 6 [40]::(p++[.tok 6 [41]])
def zej (least:Nat) (t:Trm) (d:Nat):Nat:=if zb2 least t then d else d+1
inductive BT (lets:Bs->Bool):Trm->List Pce->Nat->Prop
 | nm (nq:Bs) (h:(jH nq||lets nq)=true):BT lets (.mk 1 nq []) [.tok 4 nq] 0
 | st (nq:Bs) (h:zfd nq=true):BT lets (.mk 9 nq []) [.tok 6 [91],.tok 5 nq,.tok 6 [93]] 0
 | un (k:UInt8) (v:Trm) (p:List Pce) (d:Nat) (hk:k=6\/k=7\/k=8) (hv:BT lets v p d):BT lets (.mk k [] [v]) (zbv 5 v p++[.tok 6 (za2 k.toNat)]) (zej 5 v d)
 | bi (k:UInt8) (a b:Trm) (p q:List Pce) (d e:Nat) (hk:k=2\/k=3\/k=4\/k=5) (ha:BT lets a p d) (hb:BT lets b q e):BT lets (.mk k [] [a,b]) (zbv (qI k.toNat) a p++(.sp :: .tok 6 (za2 k.toNat) :: .sp::zbv (qI k.toNat+1) b q)) (max (zej (qI k.toNat) a d) (zej (qI k.toNat+1) b e))
section
variable {lets:Bs->Bool}
theorem zfB {n n':Nat} {t:Trm} {r:List Trm} (h:chkL lets n (t::r)=(true,n')):∃ m,chkT lets n t=(true,m)/\chkL lets m r=(true,n'):=by
 unfold chkL at h
 split at h
 ·cases h
 ·rename_i m hm;exact⟨m,hm,h⟩
theorem zdE:∀ t n n',chkT lets n t=(true,n')->∃ p d,BT lets t p d
 | .mk k nq kids,n,n',h=>by
  unfold chkT at h
  split at h
  ·cases h
  rename_i hc;have hk:k.toNat<10:=by omega
  have hl:(kids.length:Int)=j3 k.toNat:=by
   by_cases e:(kids.length:Int)=j3 k.toNat
   ·exact e
   ·exact Gy (.inr (.inr e)) hc
  have un:∀ k':UInt8,k=k'->(kids.length:Int)=j3 k'.toNat:=fun k' e=>e▸hl;have nil:∀ {l:List Trm},(l.length:Int)=0->l=[]:=fun {l} h=>List.length_eq_zero_iff.1 (by omega)
  split at h
  ·rename_i e;subst e;rw [nil hl];exact⟨_,_,.nm nq (Gq Prod.fst h)⟩
  split at h
  ·rename_i e;subst e;rw [nil hl];exact⟨_,_,.st nq (Gq Prod.fst h)⟩
  rename_i n1 n9
  split at h
  ·cases h
  rename_i hn;have hn:nq=[]:=Jn hn;subst hn;have all:k=0\/k=1\/k=9\/(k=6\/k=7\/k=8)\/(k=2\/k=3\/k=4\/k=5):=by
   have:∀ i,i<10->(UInt8.ofNat i=0\/UInt8.ofNat i=1\/UInt8.ofNat i=9\/(UInt8.ofNat i=6\/UInt8.ofNat i=7\/UInt8.ofNat i=8)\/(UInt8.ofNat i=2\/UInt8.ofNat i=3\/UInt8.ofNat i=4\/UInt8.ofNat i=5)):=by decide
   have:=this k.toNat hk
   rwa [UInt8.ofNat_toNat] at this
  rcases all with e | e | e | e | e
  ·subst e;exact Gy hl (by simp only [j3,UInt8.toNat_ofNat];intro h;change (kids.length:Int) = -1 at h;omega)
  ·exact Gy e n1
  ·exact Gy e n9
  ·have h1:(kids.length:Int)=1:=by rcases e with e | e | e <;> exact un _ e
   match kids,h1,h with
   | [],h1,_=>simp at h1
   | _::_::_,h1,_=>simp at h1;omega
   | [v],_,h =>
    obtain⟨m,hm,-⟩:=zfB h;obtain⟨p,d,hv⟩:=zdE v _ _ hm;exact⟨_,_,.un k v p d e hv⟩
  ·have h1:(kids.length:Int)=2:=by rcases e with e | e | e | e <;> exact un _ e
   match kids,h1,h with
   | [],h1,_=>simp at h1
   | [_],h1,_=>simp at h1
   | _::_::_::_,h1,_=>simp at h1;omega
   | [a,b],_,h =>
    obtain⟨m,hm,h⟩:=zfB h;obtain⟨m',hm',-⟩:=zfB h;obtain⟨p,d,ha⟩:=zdE a _ _ hm;obtain⟨q,e',hb⟩:=zdE b _ _ hm';exact⟨_,_,.bi k a b p q d e' e ha hb⟩
theorem zbP (σ γ:Bs) (n:Nat):∀ p q:List Pce,rnd σ γ n (p++q)=rnd σ γ n p++rnd σ γ n q
 | [],q=>rfl
 | .sp::r,q=>by rw [Qm,rnd,rnd,zbP,KO]
 | .nl::r,q=>by rw [Qm,rnd,rnd,zbP];simp
 | .tok _ t::r,q=>by rw [Qm,rnd,rnd,zbP,KO]
abbrev rn:List Pce->Bs:=rnd [32] [] 0
def prW (w:Pr) (p:List Pce) (d:Nat):Pr:=⟨w.text++rn p,w.deep,max w.most (w.deep+d)⟩
theorem zez {a a':Bs} {b b' c c':Nat} (h1:a=a') (h2:b=b') (h3:c=c'):Pr.mk a b c=⟨a',b',c'⟩:=by rw [h1,h2,h3]
theorem zfh {w:Pr} {least:Nat} {t:Trm} {r:List Trm} {p:List Pce} {d:Nat} (h:∀ w,w.deep<=w.most->prT w t=prW w p d) (hw:w.deep<=w.most):prHead w least (t::r)=prW w (zbv least t p) (zej least t d):=by
 unfold prHead zbv zej;by_cases hb:zb2 least t
 ·have hc:qI t.kind.toNat=0\/qI t.kind.toNat ≥ least:=hb;rw [Gx hc,Gx hb,Gx hb];exact h w hw
 ·have hc:¬ (qI t.kind.toNat=0\/qI t.kind.toNat ≥ least):=hb;rw [Gw hc,Gw hb,Gw hb];dsimp only;rw [h _ (by simp only [ql];omega)];simp only [ql,prW];exact zez (by simp [zbP,rnd]) (by omega) (by omega)
theorem zj2 {t:Trm} {p:List Pce} {d:Nat} (h:BT lets t p d):∀ w,w.deep<=w.most->prT w t=prW w p d:=by
 induction h with
 | nm nq h =>
  intro w hw;unfold prT;rw [Gx rfl];simp only [ql,prW];exact zez (by simp [rnd]) rfl (by omega)
 | st nq h =>
  intro w hw;unfold prT;rw [Gw (by decide),Gx rfl];simp only [ql,prW];exact zez (by simp [rnd]) rfl (by omega)
 | un k v p d hk hv ih =>
  intro w hw;unfold prT;rw [Gw (by rcases hk with e | e | e <;> subst e <;> decide),Gw (by rcases hk with e | e | e <;> subst e <;> decide),Gx hk,zfh ih hw];simp only [ql,prW];exact zez (by simp [zbP,rnd]) rfl rfl
 | bi k a b p q d e hk ha hb iha ihb =>
  intro w hw;unfold prT;rw [Gw (by rcases hk with e | e | e | e <;> subst e <;> decide),Gw (by rcases hk with e | e | e | e <;> subst e <;> decide),Gw (by rcases hk with e | e | e | e <;> subst e <;> decide),zfh iha hw];unfold prTail;rw [zfh ihb (by simp only [ql,prW];omega)];simp only [ql,prW];exact zez (by simp [zbP,rnd]) rfl (by omega)
theorem zsZ {s:Bs} (h:jH s=true):OkT 4 s:=by
 unfold jH at h;rw [Ql] at h;obtain⟨w,hw,e⟩:=h;rw [dE] at e;subst e;have:∀ w∈([[112,111],[114,102],[99,111],[102,114],[114,109,119],[100,97,116,97],[99,116,114,108],[108,111,99],[105,100],[101,120,116],[105,110,116]]:List Bs),zg6 w=false/\w.length<=16/\(jq (w.getD 0 0)=true/\w≠[])/\∀ c∈w,z8 c=true:=by decide
 obtain⟨h1,h2,⟨h3,h4⟩,h5⟩:=this w hw;refine .inr (.inl ⟨rfl,h1,h2,?_,h5⟩)
 cases w with
 | nil=>exact Gy rfl h4
 | cons c r=>exact⟨c,r,rfl,h3⟩
theorem zsV {s:Bs} (h:zfd s=true):OkT 5 s:=by
 unfold zfd at h;rw [Ql] at h;obtain⟨w,hw,e⟩:=h;rw [dE] at e;subst e;have:∀ w∈([[82],[87],[70],[77],[65],[76],[88],[70,70],[70,76],[70,83],[73]]:List Bs),w.length<=16/\w≠[]/\∀ c∈w,qm c=true:=by decide
 exact .inr (.inr (.inl ⟨rfl,this w hw⟩))
theorem zi8 {s:Bs} (h:jh s=true):OkT 4 s:=by
 unfold jh at h;simp only [bAT,dE,KJ] at h;obtain⟨h1,h2,h3,h4,h5⟩:=h;refine .inr (.inl ⟨rfl,h5,h2,?_,?_⟩)
 ·cases s with
  | nil=>exact Gy rfl h1
  | cons c r=>exact⟨c,r,rfl,h3⟩
 ·unfold qJ zbj at h4;rw [Uo,UX] at h4;have e:s.takeWhile z8=s:=(List.takeWhile_prefix _).eq_of_length h4;rw [<- e];exact fun c hc=>Qk.1 List.all_takeWhile c hc
theorem zcv (t:Bs) (h:t∈([[124],[38],[92],[59],[94,45,49],[43],[42],[40],[41],[91],[93],[61]]:List Bs)):OkT 6 t:=by
 have:∀ t∈([[124],[38],[92],[59],[94,45,49],[43],[42],[40],[41],[91],[93],[61]]:List Bs),(t.getD 0 0∈zdK/\t=[t.getD 0 0])\/t=[94,45,49]:=by decide
 refine .inr (.inr (.inr ⟨rfl,?_⟩));rcases this t h with ⟨h1,h2⟩ | h1
 ·exact .inl ⟨_,h1,h2⟩
 ·exact .inr h1
theorem ziK {least:Nat} {t:Trm} {p:List Pce} (h:wfP p):wfP (zbv least t p):=by
 unfold zbv
 split
 ·exact h
 ·exact⟨zcv _ (by decide),.inl rfl,zbI h ⟨zcv _ (by decide),.inl rfl,trivial⟩ rfl⟩
theorem zjD {t:Trm} {p:List Pce} {d:Nat} (hl:∀ s,lets s=true->jh s=true) (h:BT lets t p d):wfP p:=by
 induction h with
 | nm nq h =>
  refine⟨?_,.inr trivial,trivial⟩;rw [QI] at h;exact h.elim zsZ fun h=>zi8 (hl _ h)
 | st nq h=>exact⟨zcv _ (by decide),.inl rfl,zsV h,.inr rfl,zcv _ (by decide),.inl rfl,trivial⟩
 | un k v p d hk hv ih=>exact zbI (ziK ih) ⟨zcv _ (by rcases hk with e | e | e <;> subst e <;> decide),.inl rfl,trivial⟩ rfl
 | bi k a b p q d e hk ha hb iha ihb=>exact zbI (ziK iha) ⟨zcv _ (by rcases hk with e | e | e | e <;> subst e <;> decide),.inl rfl,ziK ihb⟩ trivial
end
section
variable {sc:Nat->Tk} {n:Nat} {lets:Bs->Bool}
def adv (st:PS) (tk:Tk) (m:Nat):PS:={ st with tok:=tk,nodes:=st.nodes+m }
theorem zjs (st:PS) (a b:Tk) (m k:Nat):adv (adv st a m) b k=adv st b (m+k):=by unfold adv;simp [UH]
theorem jW {st:PS} {k:Nat} {t:Bs} {r:List (Nat×Bs)} (h:qY sc st.tok ((k,t)::r)):qY sc (sc (st.tok.at_+st.tok.text.length)) r:=by rw [h.2.1];exact h.2.2
theorem zku {st:PS} {t:Bs} {r:List (Nat×Bs)} (h:qY sc st.tok ((6,t)::r)) (u:Bs):isP st u=decide (t=u):=by
 unfold isP;rw [h.1,h.2.1];rfl
theorem zg8 {st:PS} {k:Nat} {t:Bs} {r:List (Nat×Bs)} (h:qY sc st.tok ((k,t)::r)) (hk:k≠6) (u:Bs):isP st u=false:=by
 unfold isP;rw [h.1,Uj hk];rfl
theorem zdB {st:PS} {k:Nat} {t:Bs} {r:List (Nat×Bs)} (h:qY sc st.tok ((k,t)::r)):zY sc k t st=(true,zN sc st):=by
 unfold zY;rw [Gw (by rintro (e | e);exact e h.1;exact e h.2.1)]
theorem zge {st:PS} (h:st.nodes<400):jf sc st=(true,adv st (sc (st.tok.at_+st.tok.text.length)) 1):=by
 unfold jf;rw [Gw (by omega)];rfl
def znd (sc:Nat->Tk) (n:Nat) (q:List Pce):Prop:=∀ st:PS,qY sc st.tok (tks n q)->zad st=0
def zk2 (sc:Nat->Tk) (n:Nat) (q:List Pce) (s:Nat):Prop:=∀ st:PS,qY sc st.tok (tks n q)->zX st=0\/zX st-1<=s
theorem ziW {st:PS} {t:Bs} {r:List (Nat×Bs)} (h:qY sc st.tok ((6,t)::r)):zad st=if t=[42] then 8 else if t=[43] then 7 else if t=[94,45,49] then 6 else 0:=by
 unfold zad;simp only [zku h,dE]
theorem zgc {st:PS} {t:Bs} {r:List (Nat×Bs)} (h:qY sc st.tok ((6,t)::r)):zX st=if t=[124] then 2 else if t=[38] then 3 else if t=[92] then 4 else if t=[59] then 5 else 0:=by
 unfold zX;simp only [zku h,dE]
theorem zlA {t:Bs} {q:List Pce} (h:t ∉ ([[42],[43],[94,45,49]]:List Bs)):znd sc n (.tok 6 t::q):=fun st hs=>by
 rw [ziW hs];rw [Gw (fun e=>h (by rw [e];decide)),Gw (fun e=>h (by rw [e];decide)),Gw (fun e=>h (by rw [e];decide))]
theorem zkf {k:Nat} {t:Bs} {q:List Pce} {r:List (Nat×Bs)} (h:tks n q=(k,t)::r) (hk:k≠6):znd sc n q:=fun st hs=>by
 rw [h] at hs;unfold zad;rw [zg8 hs hk,zg8 hs hk,zg8 hs hk];rfl
theorem zfK {k:Nat} {t:Bs} {q:List Pce} {r:List (Nat×Bs)} {s:Nat} (h:tks n q=(k,t)::r) (hk:k≠6):zk2 sc n q s:=fun st hs=>by
 rw [h] at hs;refine .inl ?_;unfold zX;rw [zg8 hs hk,zg8 hs hk,zg8 hs hk,zg8 hs hk];rfl
theorem zsS (k:Nat):qI k<=4:=by
 unfold qI
 match k with
 | 0 | 1 | 2 | 3 | 4 | 5=>decide
 | k+6=>simp
def ziE (sc:Nat->Tk) (n:Nat) (lets:Bs->Bool) (t:Trm) (p:List Pce) (d:Nat):Prop :=
 ∀ q l f (st:PS),zb2 l t->znd sc n q->(qI t.kind.toNat≠0->zk2 sc n q (qI t.kind.toNat))->qY sc st.tok (tks n (p++q))->10*nodesT t+5<=f->st.nodes+nodesT t<=400->st.deep+d<=50->st.lets=lets ->
  ∃ f' tk',termP sc f l st=moreP sc f' l t (adv st tk' (nodesT t))/\qY sc tk' (tks n q)/\f<=f'+10*nodesT t
def zhD (sc:Nat->Tk) (n:Nat) (lets:Bs->Bool) (t:Trm) (p:List Pce) (d:Nat):Prop :=
 ∀ q f (st:PS),qY sc st.tok (tks n (p++q))->10*nodesT t+4<=f->st.nodes+nodesT t<=400->st.deep+d<=50->st.lets=lets ->
  ∃ f' tk',tightP sc f st=postsP sc f' t (adv st tk' (nodesT t))/\qY sc tk' (tks n q)/\f<=f'+10*nodesT t
theorem zfp {f l:Nat} {t:Trm} {st:PS} (h:zX st=0\/zX st-1<l):moreP sc (f+1) l t st=(some t,st):=by
 rw [moreP,Gx h]
theorem zgE {f:Nat} {t:Trm} {st:PS} (h:zad st=0):postsP sc (f+1) t st=(some t,st):=by
 rw [postsP,Gx h]
theorem zhH {t:Trm} {p:List Pce} {d:Nat} (h:zhD sc n lets t p d):ziE sc n lets t p d:=by
 intro q l f st hb hq _ hs hf hn hd hl;obtain⟨f,rfl⟩:∃ g,f=g+1:=⟨f-1,by omega⟩;obtain⟨f',tk',e,h1,h2⟩:=h q f st hs (by omega) hn hd hl;have hp:=zaT t;obtain⟨f',rfl⟩:∃ g,f'=g+1:=⟨f'-1,by omega⟩;refine⟨f,tk',?_,h1,by omega⟩;rw [termP,e,zgE (hq (adv st tk' (nodesT t)) h1)]
theorem zph {t:Trm} {p:List Pce} {d:Nat} (h:ziE sc n lets t p d) (q:List Pce) (f:Nat) (st:PS) (hs:qY sc st.tok (tks n (.tok 6 [40]::(p++(.tok 6 [41]::q))))) (hf:10*nodesT t+6<=f) (hn:st.nodes+nodesT t<=400) (hd:st.deep+(d+1)<=50) (hl:st.lets=lets) (hb:zb2 1 t):∃ tk',simpleP sc f st=(some t,adv st tk' (nodesT t))/\qY sc tk' (tks n q):=by
 obtain⟨f,rfl⟩:∃ g,f=g+1:=⟨f-1,by omega⟩;have hs:qY sc st.tok ((6,[40])::tks n (p++(.tok 6 [41]::q))):=hs;have ho:∀ s,zk2 sc n (.tok 6 [41]::q) s:=fun s st hs => .inl (by rw [zgc hs];decide);obtain⟨f',tk',e,h1,h2⟩:=h (.tok 6 [41]::q) 1 f (zN sc { st with deep:=st.deep+1 }) hb (zlA (by decide)) (fun _=>ho _) (jW hs) (by omega) hn (by change st.deep+1+d<=50;omega) hl;obtain⟨f',rfl⟩:∃ g,f'=g+1:=⟨f'-1,by omega⟩;have h1:qY sc tk' ((6,[41])::tks n q):=h1;refine⟨sc (tk'.at_+tk'.text.length),?_,by rw [h1.2.1];exact h1.2.2⟩;rw [simpleP,Gw (by rw [hs.1];decide),zku hs,zku hs,Gw (by decide),Ut (show st.deep<50 by omega),Gx (by decide),e];rw [zfp (.inl (by
  have:=ho 0 (adv (zN sc { st with deep:=st.deep+1 }) tk' (nodesT t)) h1;rw [zgc (t:=[41]) (r:=tks n q) h1];decide))]
 dsimp only;rw [zdB (k:=6) (t:=[41]) (r:=tks n q) (by exact h1)];rfl
theorem zgs {t:Trm} {p:List Pce} {d:Nat} (hT:ziE sc n lets t p d) (hG:qI t.kind.toNat=0->zhD sc n lets t p d) (s:Nat) (hs5:zb2 s t->qI t.kind.toNat=0) (q:List Pce) (f:Nat) (st:PS) (hs:qY sc st.tok (tks n (zbv s t p++q))) (hf:10*nodesT t+8<=f) (hn:st.nodes+nodesT t<=400) (hd:st.deep+zej s t d<=50) (hl:st.lets=lets):∃ f' tk',tightP sc f st=postsP sc f' t (adv st tk' (nodesT t))/\qY sc tk' (tks n q)/\f<=f'+10*nodesT t:=by
 unfold zbv at hs;unfold zej at hd;by_cases hb:zb2 s t
 ·rw [Gx hb] at hs hd;exact hG (hs5 hb) q f st hs (by omega) hn hd hl
 ·rw [Gw hb] at hs hd;obtain⟨f,rfl⟩:∃ g,f=g+1:=⟨f-1,by omega⟩;have hs:qY sc st.tok (tks n (.tok 6 [40]::(p++(.tok 6 [41]::q)))):=by
   rw [show Pce.tok 6 [40]::(p++(.tok 6 [41]::q))=Pce.tok 6 [40]::(p++[.tok 6 [41]])++q by simp];exact hs
  have hb1:zb2 1 t := .inr (by
   have:¬ qI t.kind.toNat=0:=fun e=>hb (.inl e);omega)
  obtain⟨tk',e,h1⟩:=zph hT q f st hs (by omega) hn hd hl hb1;have hp:=zaT t;refine⟨f,tk',?_,h1,by omega⟩;rw [tightP,e]
theorem zhS {t:Trm} {p:List Pce} {d:Nat} (hT:ziE sc n lets t p d) (s:Nat) (q:List Pce) (l f:Nat) (st:PS) (hls:l<=s) (hq:znd sc n q) (ho:zb2 s t->qI t.kind.toNat≠0->zk2 sc n q (qI t.kind.toNat)) (hs:qY sc st.tok (tks n (zbv s t p++q))) (hf:10*nodesT t+9<=f) (hn:st.nodes+nodesT t<=400) (hd:st.deep+zej s t d<=50) (hl:st.lets=lets):∃ f' tk',termP sc f l st=moreP sc f' l t (adv st tk' (nodesT t))/\qY sc tk' (tks n q)/\f<=f'+10*nodesT t:=by
 by_cases hb:zb2 s t
 ·unfold zbv at hs;unfold zej at hd;rw [Gx hb] at hs hd;exact hT q l f st (hb.imp id fun h=>UT hls h) hq (ho hb) hs (by omega) hn hd hl
 ·obtain⟨f,rfl⟩:∃ g,f=g+1:=⟨f-1,by omega⟩;obtain⟨f',tk',e,h1,h2⟩:=zgs hT (fun e=>Gy (.inl e) hb) s (fun h=>Gy h hb) q f st hs (by omega) hn hd hl;have hp:=zaT t;obtain⟨f',rfl⟩:∃ g,f'=g+1:=⟨f'-1,by omega⟩;refine⟨f,tk',?_,h1,by omega⟩;rw [termP,e,zgE (hq (adv st tk' (nodesT t)) h1)]
theorem zj9 {t:Trm} {p:List Pce} {d:Nat} (hr:∀ s,lets s=true->jh s=true) (h:BT lets t p d):ziE sc n lets t p d/\(qI t.kind.toNat=0->zhD sc n lets t p d):=by
 have tt:∀ {t p d},zhD sc n lets t p d->ziE sc n lets t p d/\(qI t.kind.toNat=0->zhD sc n lets t p d):=fun h=>⟨zhH h,fun _=>h⟩
 induction h with
 | nm nq h =>
  refine tt ?_;intro q f st hs hf hn hd hl;rw [show nodesT (.mk 1 nq [])=1 from rfl] at hf hn ⊢;obtain⟨f,rfl⟩:∃ g,f=g+2:=⟨f-2,by omega⟩;have hs:qY sc st.tok ((4,nq)::tks n q):=hs;refine⟨f+1,sc (st.tok.at_+st.tok.text.length),?_,jW hs,by omega⟩;rw [tightP,simpleP,Gx hs.1,hs.2.1,hl,Gw (by revert h;cases jH nq <;> cases lets nq <;> decide),zge (by omega)];dsimp only;rw [hs.2.1]
 | st nq h =>
  refine tt ?_;intro q f st hs hf hn hd hl;rw [show nodesT (.mk 9 nq [])=1 from rfl] at hf hn ⊢;obtain⟨f,rfl⟩:∃ g,f=g+2:=⟨f-2,by omega⟩;have hs:qY sc st.tok ((6,[91])::(5,nq)::(6,[93])::tks n q):=hs;have h2:=jW hs;have h3:qY sc (zN sc (adv st (sc (st.tok.at_+st.tok.text.length)) 1)).tok _:=jW (st:=adv st (sc (st.tok.at_+st.tok.text.length)) 1) h2;refine⟨f+1,_,?_,jW h3,by omega⟩;rw [tightP,simpleP,Gw (by rw [hs.1];decide),zku hs,Gx (by decide),zge (by omega)];dsimp only;rw [Gw (fun e=>e h2.1),show (adv st (sc (st.tok.at_+st.tok.text.length)) 1).tok.text=nq from h2.2.1,h,Gw (by decide),zdB h3];rfl
 | un k v p d hk hv ih =>
  refine tt ?_;intro q f st hs hf hn hd hl;rw [show nodesT (.mk k [] [v])=1+(nodesT v+0) from rfl] at hf hn ⊢;rw [KO] at hs;obtain⟨f',tk',e,h1,h2⟩:=zgs ih.1 ih.2 5 (fun h=>h.elim id fun h=>Gy (zsS v.kind.toNat) (by omega)) ([.tok 6 (za2 k.toNat)]++q) f st hs (by omega) (by omega) hd hl;obtain⟨f',rfl⟩:∃ g,f'=g+1:=⟨f'-1,by omega⟩;have h1:qY sc (adv st tk' (nodesT v)).tok ((6,za2 k.toNat)::tks n q):=h1;have hp:zad (adv st tk' (nodesT v))=k.toNat:=by
   rw [ziW h1];rcases hk with e | e | e <;> subst e <;> decide
  refine⟨f',_,?_,jW h1,by omega⟩;rw [e,postsP,hp,Gw (by rcases hk with e | e | e <;> subst e <;> decide),zge (show st.nodes+nodesT v<400 by omega)];dsimp only;rw [zjs,UInt8.ofNat_toNat,show nodesT v+1=1+(nodesT v+0) by omega]
 | bi k a b p q0 d e hk ha hb iha ihb =>
  have hst:qI k.toNat≠0:=by rcases hk with e | e | e | e <;> subst e <;> decide
  have hst2:qI k.toNat+1=k.toNat:=by rcases hk with e | e | e | e <;> subst e <;> decide
  refine⟨?_,fun e=>Gy e hst⟩;intro q l f st hbl hq ho hs hf hn hd hl;have hbl:qI k.toNat=0\/qI k.toNat ≥ l:=hbl;have ho:zk2 sc n q (qI k.toNat):=ho hst;rw [show nodesT (.mk k [] [a,b])=1+(nodesT a+(nodesT b+0)) from rfl] at hf hn ⊢;have hnb:=zaT b;rw [KO] at hs;obtain⟨f1,tk1,e1,h1,h2⟩:=zhS iha.1 (qI k.toNat) ((.sp :: .tok 6 (za2 k.toNat) :: .sp::zbv (qI k.toNat+1) b q0)++q) l f st (hbl.resolve_left hst) (fun st hs=>by
   have hs:qY sc st.tok ((6,za2 k.toNat)::tks n (zbv (qI k.toNat+1) b q0++q)):=hs;rw [ziW hs];rcases hk with e | e | e | e <;> subst e <;> decide) (fun hb1 hb2 st hs=>by
   have hs:qY sc st.tok ((6,za2 k.toNat)::tks n (zbv (qI k.toNat+1) b q0++q)):=hs;have:=hb1.resolve_left hb2;refine .inr (UT ?_ this);rw [zgc hs];rcases hk with e | e | e | e <;> subst e <;> decide) hs (by omega) (by omega) (by omega) hl
  obtain⟨f1,rfl⟩:∃ g,f1=g+1:=⟨f1-1,by omega⟩;have h1:qY sc (adv st tk1 (nodesT a)).tok ((6,za2 k.toNat)::tks n (zbv (qI k.toNat+1) b q0++q)):=h1;have hop:zX (adv st tk1 (nodesT a))=k.toNat:=by
   rw [zgc h1];rcases hk with e | e | e | e <;> subst e <;> decide
  obtain⟨f2,tk2,e2,h3,h4⟩:=zhS ihb.1 (qI k.toNat+1) q (qI k.toNat+1) f1 (adv (adv st tk1 (nodesT a)) (sc ((adv st tk1 (nodesT a)).tok.at_+(adv st tk1 (nodesT a)).tok.text.length)) 1) (Gc _) hq (fun hb1 hb2 st hs=>by
   have:=hb1.resolve_left hb2;exact (ho st hs).imp id fun h=>by omega) (jW h1) (by omega) (show st.nodes+nodesT a+1+nodesT b<=400 by omega) (show st.deep+_<=50 by omega) hl
  obtain⟨f2,rfl⟩:∃ g,f2=g+1:=⟨f2-1,by omega⟩;refine⟨f1,tk2,?_,h3,by omega⟩;have hle:=hbl.resolve_left hst;rw [e1,moreP,hop,Gw (by omega),zge (show st.nodes+nodesT a<400 by omega)];dsimp only;rw [hst2] at e2;rw [e2,zfp ((ho _ h3).imp id fun h=>by omega)];dsimp only;rw [zjs,zjs,UInt8.ofNat_toNat,show nodesT a+(1+nodesT b)=1+(nodesT a+(nodesT b+0)) by omega]
end
def zeO (l:LineD) (p tl:List Pce):List Pce :=
 if l.kind=0 then .tok 3 [108,101,116] :: .sp :: .tok 4 l.name :: .sp :: .tok 6 [61] :: .sp::(p++(.nl::tl))
 else .tok 3 (zS.getD l.kind []) :: .sp::(p++(.sp :: .tok 3 [97,115] :: .sp :: .tok 4 l.name :: .nl::tl))
inductive LS:(Bs->Bool)->(Bs->Bool)->Nat->List LineD->List Pce->Nat->Prop
 | nil (lets checks:Bs->Bool) (m:Nat):LS lets checks m [] [] 0
 | lt (lets checks:Bs->Bool) (m:Nat) (l:LineD) (r:List LineD) (p q:List Pce) (d e:Nat) (h0:l.kind=0) (hn:jh l.name=true) (hu:(jH l.name||lets l.name)=false) (hm:m+nodesT l.term<=400) (ht:BT lets l.term p d) (hr:LS (za3 lets l.name) checks (m+nodesT l.term) r q e):LS lets checks m (l::r) (zeO l p q) (max d e)
 | ck (lets checks:Bs->Bool) (m:Nat) (l:LineD) (r:List LineD) (p q:List Pce) (d e:Nat) (h0:l.kind≠0) (h3:l.kind<=3) (hn:jh l.name=true) (hu:checks l.name=false) (hm:m+nodesT l.term<=400) (ht:BT lets l.term p d) (hr:LS lets (za3 checks l.name) (m+nodesT l.term) r q e):LS lets checks m (l::r) (zeO l p q) (max d e)
theorem ziN {g:Bs->Bool} {nq:Bs} (h:∀ s,g s=true->jh s=true) (hn:jh nq=true):∀ s,za3 g nq s=true->jh s=true:=fun s hs=>by
 unfold za3 at hs;rw [QI] at hs;rcases hs with e | e
 ·rw [dT e];exact hn
 ·exact h s e
theorem zde:∀ (ls:List LineD) (lets checks:Bs->Bool) (m:Nat) (lets':Bs->Bool),(∀ s,lets s=true->jh s=true)->qe lets checks m ls=(true,lets')->∃ p d,LS lets checks m ls p d
 | [],lets,checks,m,lets',hl,h=>⟨_,_,.nil lets checks m⟩
 | l::r,lets,checks,m,lets',hl,h=>by
  rw [qe] at h
  split at h
  ·cases h
  rename_i hc;have hk:l.kind<=3:=Jn fun h=>hc (.inl (by omega));have hnm:jh l.name=true:=by
   cases hnb:jh l.name with
   | true=>rfl
   | false=>exact Gy (.inr hnb) hc
  split at h
  ·cases h
  rename_i n2 e;obtain⟨hv,hn2⟩:=zfA lets (fun s hs=>ziq (hl s hs)) l.term m n2 e;have hm:=(ze1 lets m l.term).2 (by rw [e]);rw [e] at hm;have hm:n2<=400:=hm;subst hn2;obtain⟨p,d,ht⟩:=zdE l.term _ _ e
  split at h
  ·rename_i h0
   split at h
   ·cases h
   rename_i hu;obtain⟨q,f,hr⟩:=zde r _ _ _ _ (ziN hl hnm) h;exact⟨_,_,.lt lets checks m l r p q d f h0 hnm (by simpa using hu) hm ht hr⟩
  ·rename_i h0
   split at h
   ·cases h
   rename_i hu;obtain⟨q,f,hr⟩:=zde r _ _ _ _ hl h;exact⟨_,_,.ck lets checks m l r p q d f h0 hk hnm (by simpa using hu) hm ht hr⟩
theorem znJ {lets:Bs->Bool} {l:LineD} {p:List Pce} {d:Nat} (ht:BT lets l.term p d) (w:Pr) (hw:w.deep<=w.most):∃ x,zah w l=⟨w.text++x,w.deep,max w.most (w.deep+d)⟩/\∀ tl,rn (zeO l p tl)=x++rn tl:=by
 unfold zah zeO;by_cases h0:l.kind=0
 ·refine⟨zS.getD 0 []++[32]++l.name++[32,61,32]++rn p++[10],?_,fun tl=>?_⟩
  ·dsimp only;rw [Gx h0,h0,zj2 ht _ (by simp only [ql];exact hw)];simp only [ql,prW];exact zez (by simp) rfl rfl
  ·rw [Gx h0];simp [rnd,zbP,zS]
 ·refine⟨zS.getD l.kind []++[32]++rn p++[32,97,115,32]++l.name++[10],?_,fun tl=>?_⟩
  ·dsimp only;rw [Gw h0,zj2 ht _ (by simp only [ql];exact hw)];simp only [ql,prW];exact zez (by simp) rfl rfl
  ·rw [Gw h0];simp [rnd,zbP]
theorem zlO {lets checks:Bs->Bool} {m:Nat} {ls:List LineD} {p:List Pce} {d:Nat} (h:LS lets checks m ls p d):∀ w:Pr,w.deep<=w.most->ls.foldl zah w=prW w p d:=by
 have step:∀ (lets:Bs->Bool) (l:LineD) (r:List LineD) (p q:List Pce) (d e:Nat),BT lets l.term p d->(∀ w:Pr,w.deep<=w.most->r.foldl zah w=prW w q e)->∀ w:Pr,w.deep<=w.most->(l::r).foldl zah w=prW w (zeO l p q) (max d e):=by
  intro lets l r p q d e ht ih w hw;obtain⟨x,h1,h2⟩:=znJ ht w hw;rw [QO,h1,ih _ (by dsimp only;omega)];unfold prW;rw [h2];exact zez (by simp) rfl (by dsimp only;omega)
 induction h with
 | nil=>intro w hw;exact zez (by simp [rnd]) rfl (by omega)
 | lt lets checks m l r p q d e h0 hn hu hm ht hr ih=>exact step lets l r p q d e ht ih
 | ck lets checks m l r p q d e h0 h3 hn hu hm ht hr ih=>exact step lets l r p q d e ht ih
theorem zgd:∀ k,k<=3->OkT 3 (zS.getD k [])/\zaK (zS.getD k [])=k:=by
 have:∀ k,k<=3->zg6 (zS.getD k [])=true/\(jq ((zS.getD k []).getD 0 0)=true/\zS.getD k []≠[])/\(∀ c∈zS.getD k [],z8 c=true)/\zaK (zS.getD k [])=k:=by
  intro k hk
  match k,hk with
  | 0,_ | 1,_ | 2,_ | 3,_=>decide
 intro k hk;obtain⟨h1,⟨h2,h3⟩,h4,h5⟩:=this k hk;refine⟨.inl ⟨rfl,h1,?_,h4⟩,h5⟩
 cases e:zS.getD k [] with
 | nil=>exact Gy e h3
 | cons c r=>rw [e] at h2;exact⟨c,r,rfl,h2⟩
theorem zvc:OkT 3 [97,115] := .inl ⟨rfl,by decide,⟨97,[115],rfl,by decide⟩,by decide⟩
theorem zjE {lets checks:Bs->Bool} {m:Nat} {ls:List LineD} {p:List Pce} {d:Nat} (h:LS lets checks m ls p d):(∀ s,lets s=true->jh s=true)->wfP p:=by
 induction h with
 | nil=>exact fun _=>trivial
 | lt lets checks m l r p q d e h0 hn hu hm ht hr ih =>
  intro hl;unfold zeO;rw [Gx h0];exact⟨(zgd 0 (by decide)).1,.inr trivial,zi8 hn,.inr trivial,zcv _ (by decide),.inl rfl,zbI (zjD hl ht) (ih (ziN hl hn)) trivial⟩
 | ck lets checks m l r p q d e h0 h3 hn hu hm ht hr ih =>
  intro hl;unfold zeO;rw [Gw h0];exact⟨(zgd _ h3).1,.inr trivial,zbI (zjD hl ht) ⟨zvc,.inr trivial,zi8 hn,.inr trivial,ih hl⟩ trivial⟩
section
variable {sc:Nat->Tk} {n:Nat}
theorem zlB {F:Nat} {acc:List LineD} {q:List Pce} (k:Nat):∀ (i:Nat) (st:PS),qY sc st.tok (List.replicate i (2,[10])++tks n q)->∃ tk,jS sc F (k+i) acc st=jS sc F k acc { st with tok:=tk }/\qY sc tk (tks n q)
 | 0,st,h=>⟨st.tok,rfl,h⟩
 | i+1,st,h=>by
  rw [List.replicate_succ] at h;have h:qY sc st.tok ((2,[10])::(List.replicate i (2,[10])++tks n q)):=h;obtain⟨tk,e,h2⟩:=zlB k i (zN sc st) (jW h);refine⟨tk,?_,h2⟩;rw [show k+(i+1)=(k+i)+1 by omega,jS,Gw (by rw [h.1];decide),Gx h.1,e];rfl
theorem zhY {lets:Bs->Bool} {t:Trm} {p:List Pce} {d:Nat} (hl:∀ s,lets s=true->jh s=true) (ht:BT lets t p d) {q:List Pce} {k:Nat} {x:Bs} {r:List (Nat×Bs)} (hq:tks n q=(k,x)::r) (hk:k≠6) (st:PS) (hs:qY sc st.tok (tks n (p++q))) (hn:st.nodes+nodesT t<=400) (hd:st.deep+d<=50) (he:st.lets=lets):∃ tk,termP sc 40000 1 st=(some t,adv st tk (nodesT t))/\qY sc tk (tks n q):=by
 have hb:zb2 1 t:=by
  unfold zb2;omega
 obtain⟨f',tk,e,h1,h2⟩:=(zj9 (sc:=sc) (n:=n) hl ht).1 q 1 40000 st hb (zkf hq hk) (fun _=>zfK hq hk) hs (by omega) hn hd he;obtain⟨f',rfl⟩:∃ g,f'=g+1:=⟨f'-1,by omega⟩;refine⟨tk,?_,h1⟩;rw [e,zfp ((zfK (s:=0) hq hk (adv st tk (nodesT t)) h1).imp id fun h=>by omega)]
theorem zmN {used:Bs->Bool} {st:PS} {s:Bs} {r:List (Nat×Bs)} (h:qY sc st.tok ((4,s)::r)) (hu:used s=false):q9 sc used st=(some s,zN sc st):=by
 unfold q9;rw [Gw (fun e=>e h.1),h.2.1,hu,Gw (by decide)]
theorem zpw {lets checks:Bs->Bool} {m:Nat} {ls:List LineD} {p:List Pce} {d:Nat} (h:LS lets checks m ls p d):∀ (F:Nat) (acc:List LineD) (st:PS),(∀ s,lets s=true->jh s=true)->d<=50->qY sc st.tok (tks n p)->st.lets=lets->st.checks=checks->st.nodes=m->st.deep=0->acc.length+ls.length<=40->(n+2)*ls.length+1<=F->jS sc 40000 F acc st=(some (acc++ls),0,0):=by
 induction h with
 | nil =>
  intro F acc st hl hd hs h1 h2 h3 h4 h5 h6;obtain⟨F,rfl⟩:∃ g,F=g+1:=⟨F-1,by omega⟩;rw [jS,Gx hs.1,QM]
 | lt lets checks m l r p q d e h0 hn hu hm ht hr ih =>
  intro F acc st hl hd hs h1 h2 h3 h4 h5 h6;rw [Qt,Nat.mul_succ] at h6;rw [Qt] at h5;obtain⟨F,rfl⟩:∃ g,F=(g+(n+1))+1:=⟨F-n-2,by omega⟩;unfold zeO at hs;rw [Gx h0] at hs;have hs:qY sc st.tok ((3,[108,101,116])::(4,l.name)::(6,[61])::tks n (p++(.nl::q))):=hs;have s1:qY sc (zN sc st).tok _:=jW hs;have s2:qY sc (zN sc (zN sc st)).tok _:=jW s1;have s3:qY sc (zN sc (zN sc (zN sc st))).tok _:=jW s2;obtain⟨tk,e1,e2⟩:=zhY hl ht (n:=n) (q := .nl::q) (by rw [tks]) (by decide) _ s3 (by change st.nodes+_<=400;omega) (by change st.deep+d<=50;omega) (by exact h1);have hline:zak sc 40000 acc.length st=(some l,{ adv (zN sc (zN sc (zN sc st))) tk (nodesT l.term) with lets:=za3 lets l.name }):=by
   unfold zak;rw [hs.1,hs.2.1,show zaK [108,101,116]=0 from (zgd 0 (by decide)).2,Gw (by decide),Gw (by omega),Gx rfl,zmN s1 (by show (jH l.name||st.lets l.name)=false;rw [h1];exact hu)];dsimp only;rw [zdB s2];dsimp only;rw [e1];dsimp only;unfold zhQ;rw [Gw (fun h=>h.1 e2.1)];rw [<- h0];rw [show (adv (zN sc (zN sc (zN sc st))) tk (nodesT l.term)).lets=lets from h1]
  rw [jS,Gw (by rw [hs.1];decide),Gw (by rw [hs.1];decide),hline];dsimp only;obtain⟨tk2,e3,e4⟩:=zlB (F:=40000) (acc:=acc++[l]) F (n+1) { adv (zN sc (zN sc (zN sc st))) tk (nodesT l.term) with lets:=za3 lets l.name } (by rw [List.replicate_succ];exact e2);rw [e3];refine Eq.trans (ih F (acc++[l]) _ (ziN hl hn) (by omega) e4 rfl h2 (by change st.nodes+_=_;rw [h3]) h4 (by rw [lap];simp only [Qt,QR];omega) (by omega)) ?_;simp
 | ck lets checks m l r p q d e h0 h3' hn hu hm ht hr ih =>
  intro F acc st hl hd hs h1 h2 h3 h4 h5 h6;rw [Qt,Nat.mul_succ] at h6;rw [Qt] at h5;obtain⟨F,rfl⟩:∃ g,F=(g+(n+1))+1:=⟨F-n-2,by omega⟩;unfold zeO at hs;rw [Gw h0] at hs;have hs:qY sc st.tok ((3,zS.getD l.kind [])::tks n (p++(.sp :: .tok 3 [97,115] :: .sp :: .tok 4 l.name :: .nl::q))):=hs;have s1:qY sc (zN sc st).tok _:=jW hs;obtain⟨tk,e1,e2⟩:=zhY hl ht (n:=n) (q := .sp :: .tok 3 [97,115] :: .sp :: .tok 4 l.name :: .nl::q) (by rw [tks,tks]) (by decide) _ s1 (by change st.nodes+_<=400;omega) (by change st.deep+d<=50;omega) (by exact h1);have e2:qY sc (adv (zN sc st) tk (nodesT l.term)).tok ((3,[97,115])::(4,l.name)::(2,[10])::(List.replicate n (2,[10])++tks n q)):=e2;have s2:qY sc (zN sc (adv (zN sc st) tk (nodesT l.term))).tok _:=jW e2;have s3:qY sc (zN sc (zN sc (adv (zN sc st) tk (nodesT l.term)))).tok _:=jW s2;have hline:zak sc 40000 acc.length st=(some l,{ zN sc (zN sc (adv (zN sc st) tk (nodesT l.term))) with checks:=za3 checks l.name }):=by
   unfold zak;rw [hs.1,hs.2.1,(zgd _ h3').2,Gw (by omega),Gw (by omega),Gw h0,e1];dsimp only;rw [zdB e2];dsimp only;rw [zmN s2 (by change st.checks l.name=false;rw [h2];exact hu)];dsimp only;unfold zhQ;rw [Gw (fun h=>h.1 s3.1)];rw [show (zN sc (zN sc (adv (zN sc st) tk (nodesT l.term)))).checks=checks from h2]
  rw [jS,Gw (by rw [hs.1];decide),Gw (by rw [hs.1];decide),hline];dsimp only;obtain⟨tk2,e3,e4⟩:=zlB (F:=40000) (acc:=acc++[l]) F (n+1) { zN sc (zN sc (adv (zN sc st) tk (nodesT l.term))) with checks:=za3 checks l.name } (by rw [List.replicate_succ];exact s3);rw [e3];refine Eq.trans (ih F (acc++[l]) _ hl (by omega) e4 h1 rfl (by change st.nodes+_=_;rw [h3]) h4 (by rw [lap];simp only [Qt,QR];omega) (by omega)) ?_;simp
end
theorem zd8 {ls:List LineD} {t:Bs} {lets:Bs->Bool} (h:jt ls=some (t,lets)):∃ p d,LS (fun _=>false) (fun _=>false) 0 ls p d/\d<=50/\t=rn p/\t.length<=8192/\ls.length<=40:=by
 unfold jt at h
 split at h
 ·cases h
 rename_i h40
 split at h
 ·cases h
 rename_i lets' hc;obtain⟨p,d,hp⟩:=zde ls _ _ _ _ (by intro s h;cases h) hc;dsimp only at h;rw [zlO hp ⟨[],0,0⟩ (Gc _)] at h
 split at h
 ·cases h
 rename_i hle;simp only [prW,QW] at hle h;obtain rfl:rn p=t:=Gq Prod.fst (Ug h);exact⟨p,d,hp,by omega,rfl,by omega,by omega⟩
theorem zka {ls:List LineD} {p:List Pce} {d:Nat} (h:LS (fun _=>false) (fun _=>false) 0 ls p d) (hd:d<=50) (h40:ls.length<=40) {σ γ:Bs} {n:Nat} (hs:∀ c∈σ,zW c=true) (hσ:σ≠[]) (hg:zsH γ) (hn:n<=1) (h8:(rnd σ γ n p).length<=8192):zV (rnd σ γ n p)=(some ls,0,0):=by
 have hl:∀ s:Bs,(fun _:Bs=>false) s=true->jh s=true:=by intro s h;cases h
 unfold zV;rw [Gw (by omega)];have hst:=zf5 (n:=n) hs hσ hg p (zjE h hl) [] [] (by simp);exact zpw h 10000 [] (zfc (rnd σ γ n p)) hl hd hst rfl rfl rfl rfl (by simpa using h40) (by
  have:(n+2)*ls.length<=3*40:=Us (by omega) h40;omega)
theorem zo6 {c b:UInt8} {new:List UInt8} (l:List UInt8):Lib.replaceK [c] new (Lib.count (b::l) [c]) (b::l)=(if b=c then new else [b])++Lib.replaceK [c] new (Lib.count l [c]) l:=by
 by_cases h:b=c
 ·subst h;have hix:Lib.index (b::l) [b]=((0:Nat):Int):=by rw [Lib.index];simp [List.isPrefixOf]
  rw [Lib.count_cons_eq,UP,Lib.replaceK_hit _ _ _ _ 0 hix,Gx rfl];rfl
 ·have hp:([c]:List UInt8).isPrefixOf (b::l)=false:=by simp [List.isPrefixOf,Ne.symm h]
  have hix:Lib.index (b::l) [c]=if Lib.index l [c] == -1 then -1 else Lib.index l [c]+1:=by rw [Lib.index,hp];simp
  rw [Lib.count_cons_ne b c l h,Gw h]
  cases e:Lib.count l [c] with
  | zero=>rfl
  | succ k =>
   obtain⟨i,hi⟩:=Lib.index_of_count (s:=l) (old:=[c]) (by omega);rw [Lib.replaceK_hit _ _ _ _ i hi,Lib.replaceK_hit _ _ _ _ (i+1) (by rw [hix,hi,Gw (by rw [beq_iff_eq];omega)];rfl)];simp
def wid (c:UInt8) (new:Bs) (s:Bs):Bs:=s.flatMap fun b=>if b=c then new else [b]
theorem ziV {c:UInt8} {new:List UInt8} (h:[c]≠new) (s:List UInt8):Lib.replaceAll s [c] new=wid c new s:=by
 unfold Lib.replaceAll Lib.replace Lib.replaceNum;rw [Gw (by rw [beq_iff_eq];exact h),Gx (.inl (by decide))]
 induction s with
 | nil=>rfl
 | cons b l ih=>rw [zo6,ih];rfl
theorem zbH (c:UInt8) (new a b:Bs):wid c new (a++b)=wid c new a++wid c new b:=Kf
theorem zk9 {c:UInt8} {new:Bs}:∀ {s:Bs},(∀ b∈s,b≠c)->wid c new s=s
 | [],_=>rfl
 | b::l,h=>by
  rw [show b::l=[b]++l from rfl,zbH,zk9 (s:=l) fun x hx=>h x (JW _ hx)];unfold wid;simp [h b Kz]
theorem zpj {k:Nat} {t:Bs} (h:OkT k t):∀ c∈t,c≠32/\c≠10:=by
 have inn:∀ c,z8 c=true->c≠32/\c≠10:=fun c hc=>⟨by rintro rfl;exact Gy hc (by decide),by rintro rfl;exact Gy hc (by decide)⟩;have upp:∀ c,qm c=true->c≠32/\c≠10:=fun c hc=>⟨by rintro rfl;exact Gy hc (by decide),by rintro rfl;exact Gy hc (by decide)⟩;rcases h with ⟨-,-,-,h⟩ | ⟨-,-,-,-,h⟩ | ⟨-,-,-,h⟩ | ⟨-,⟨d,hd,rfl⟩ | rfl⟩
 ·exact fun c hc=>inn c (h c hc)
 ·exact fun c hc=>inn c (h c hc)
 ·exact fun c hc=>upp c (h c hc)
 ·intro c hc;rw [KA] at hc;subst hc;exact (show ∀ c∈zdK,c≠32/\c≠10 by decide) _ hd
 ·decide
abbrev zmL:Bs:=[32,35,32,97,115,32,112,111]
def zaO (s:Bs):Bs:=wid 10 (zmL++[10,10]) (wid 32 [9,32] s)
theorem zek:∀ {p:List Pce},wfP p->zaO (rn p)=rnd [9,32] zmL 1 p
 | [],_=>rfl
 | .sp::r,h=>by
  have:=zek (p:=r) h;unfold zaO at *;rw [rn,rnd,zbH,zbH,this];rfl
 | .nl::r,h=>by
  have:=zek (p:=r) h;unfold zaO at *;rw [rn,rnd,show []++10::(List.replicate 0 10++rnd [32] [] 0 r)=[10]++rn r from rfl,zbH,zbH,this];rfl
 | .tok k t::r,h=>by
  have:=zek (p:=r) h.2.2;unfold zaO at *;have hb:=zpj h.1;rw [rn,rnd,zbH,zbH,this,zk9 (c:=32) fun c hc=>(hb c hc).1,zk9 (c:=10) fun c hc=>(hb c hc).2];rfl
theorem zhx {ls:List LineD} {t:Bs} {lets:Bs->Bool} (h:jt ls=some (t,lets)):zV t=(some ls,0,0)/\((zaO t).length<=8192->zV (zaO t)=(some ls,0,0))/\zaO t=Lib.replaceAll (Lib.replaceAll t [32] [9,32]) [10] (zmL++[10,10]):=by
 obtain⟨p,d,hp,hd,rfl,h8,h40⟩:=zd8 h;have hw:=zjE hp (by intro s h;cases h);refine⟨zka hp hd h40 (σ:=[32]) (γ:=[]) (n:=0) (by decide) (by decide) (.inl rfl) (by decide) h8,fun hl=>?_,?_⟩
 ·rw [zek hw] at hl ⊢;exact zka hp hd h40 (σ:=[9,32]) (γ:=zmL) (n:=1) (by decide) (by decide) (.inr ⟨[32],[35,32,97,115,32,112,111],rfl,by decide,rfl,by decide⟩) (by decide) hl
 ·rw [ziV (by decide),ziV (by decide)];rfl
theorem zf2 {c:UInt8} {new:Bs} (k:Nat) (hk:new.length<=k) (h1:1<=k):∀ s:Bs,(wid c new s).length<=k*s.length
 | []=>by simp [wid]
 | b::l=>by
  rw [show b::l=[b]++l from rfl,zbH,lap,lap,Nat.mul_add];have:=zf2 k hk h1 (c:=c) (new:=new) l;have:(wid c new [b]).length<=k:=by
   unfold wid;by_cases h:b=c <;> simp [h] <;> omega
  simp only [Qt,QR];omega
end Go.Proofs.YtnadlhpkpnfmbaaGreatDoor
namespace Go.Proofs.YtnadlhpkpnfmbaaGreatDoor
open Go.Vc Go.RowKit Go.Sei
theorem zp7 (d:Nat) (a b:Bool) (w:Wd):(Op.equalIn (d+1) 4 (.bool a) (.bool b)).run PG w = .ok (decide (a=b)) w:=by
 simp only [Op.equalIn,UY,Uu Tryz.underlying4,Qa,UZ]
 cases a <;> cases b <;> rfl
theorem zim (x y:Operand) (a b:Bool) (w:Wd):(do eqGuard .neq 4 x y (.bool a) (.bool b);binOp .neq 4 (.bool a) (.bool b)).run PG w = .ok (.bool (!decide (a=b))) w:=by
 have h:(Op.equal 4 (.bool a) (.bool b)).run PG w = .ok (decide (a=b)) w:=zp7 9999 a b w;have h1:(eqGuard .neq 4 x y (.bool a) (.bool b)).run PG w = .ok () w:=rfl;rw [UY,h1];simp only [Qa,binOp,UY,h,UZ]
section
variable {w X Y:Wd} {s:Bs} {ls:List LineD} {p:OA} {cap L:Nat}
structure BkB (w:Wd) (L:Nat) (ls:List LineD) (p:OA) (cap:Nat) (X:Wd):Prop where
 C:X.heap[L]?=some (.cells #[.slice p ls.length cap] 47 (0,0))
 M:LinsM jL X p ls
 bl:Bw w X
theorem BkB.below (h:BkB w L ls p cap X) (hb:Bw X Y):BkB w L ls p cap Y:=⟨zb hb h.C,h.M.below hb,zst h.bl hb⟩
theorem zoj (hM:LinsM jL w p ls) (hlen:ls.length<=140737488351232) (hs:s.length<=140737488351232) (hG:GlobA w) (hmax:∃ m,w.cell? ⟨5,0,none⟩=some (.int .i64 m)) :
  CB 7 #[.agg #[.slice p ls.length cap],zn s] w (.bool true):=by
 refine z6 165 [.agg #[.slice p ls.length cap],zn s] (.c .p (.c (.s .p .p) (.c .p (.c (.s .p .p) (.c .p (.c (.s .p .p) (.c .p (.c .p (.c (.s .p .p) (.c .p (.c .p .p))))))))))) Tryz.func7 ?_;have aw:∀ {X:Wd},Bw w X->Calls PG 11 #[] X fun e w'=>e = .returned (.bool true)/\Bw w w':=fun {X} b=>(ztU (hG.below b)).mono fun e Y h=>⟨h.1,zst b h.2⟩;obtain⟨L,hL⟩:=nm (w.heap.size);refine⟨Unit,fun _=>⟨[(1,zn s),(2,At0 L)],[]⟩,fun _ X=>BkB w L ls p cap X,⟨(),⟨.cons rfl (.cons (by rw [hL];rfl) .nil),rfl⟩,⟨by rw [hL];exact zA w _,hM.below (zba _ _),zba _ _⟩⟩,?_⟩;rintro _ X hX;refine⟨Unit,fun _=>⟨[(1,zn s),(2,At0 L)],[]⟩,fun _ X=>BkB w L ls p cap X,?_,?_⟩
 ·refine⟨_,rfl,za hX.C,hlt hX.C,cmo (zvo (cap:=cap) hX.M hlen) ?_⟩;rintro e Y ⟨rfl,bY⟩;replace hX:=hX.below bY;clear bY X;refine Gm (fun h=>⟨_,rfl,za hX.C,hlt hX.C,cmo (ze8 (cap:=cap) (hG.k.below hX.bl) hX.M.all hlen) ?_⟩) (fun h=>⟨(),(cvE rfl rfl),hX⟩);rintro e X ⟨rfl,bX⟩;replace hX:=hX.below bX;clear bX Y;refine⟨_,rfl,za hX.C,hlt hX.C,cmo (zeh (cap:=cap) (hG.k.below hX.bl) hX.M.all hlen) ?_⟩;rintro e Y ⟨rfl,bY⟩;replace hX:=hX.below bY;clear bY X
  cases hx:jt ls with
  | none =>
   refine⟨_,fun w=>zim _ _ false false w,brF (cmo (zcO (hG.k.below hX.bl) [] (by decide)) ?_)⟩;rintro e Z ⟨⟨p',cap',rfl,h40,hM'⟩,bZ⟩;exact zk (X:=Z) (v := .agg #[.slice p' ((zV []).1.getD []).length cap']) k47 rfl rfl rfl fun V hbV fV sV=>brF (brF ⟨(),(cvE rfl rfl),(hX.below bZ).below hbV⟩)
  | some r =>
   obtain⟨t,lets⟩:=r;obtain⟨hp1,-,-⟩:=zhx hx;obtain⟨-,-,-,-,-,h8,-⟩:=zd8 hx;refine⟨_,fun w=>zim _ _ true true w,brF (cmo (zcO (hG.k.below hX.bl) t (by omega)) ?_)⟩;rintro e Z ⟨⟨p',cap',rfl,h40,hM'⟩,bZ⟩;rw [hp1] at hM' ⊢;refine zk (X:=Z) (v := .agg #[.slice p' ls.length cap']) k47 rfl rfl rfl fun V hbV fV sV=>?_;have hV:=(hX.below bZ).below hbV;have hMV:=(hM'.below hbV).all;clear hX bZ hM' hbV;refine brT (brF (brF ⟨_,rfl,za hV.C,hlt hV.C,_,rfl,za fV,hlt fV,cmo (zdG (c:=cap) (d:=cap') hlen (by omega) hV.M hMV) ?_⟩));rintro e U ⟨rfl,bU⟩;rw [zcw];exact brF ⟨(),(cvE rfl rfl),hV.below bU⟩
 rintro _ X hX;obtain⟨R,hR⟩:=nm (zV s);have herr:=znL s;rw [<- hR] at herr;refine⟨OA×Nat,fun y=>⟨[(2,At0 L),(11,i64 R.2.2)],[]⟩,fun y X=>BkB w L (R.1.getD []) y.1 y.2 X/\(R.1.getD []).length<=40,?_,?_⟩
 ·refine cmo (zcO (hG.k.below hX.bl) s hs) ?_;rw [<- hR];rintro e Y ⟨⟨p',cap',rfl,h40,hM'⟩,bY⟩;have f1:=zb bY hX.C;exact zy (v := .agg #[.slice p' (R.1.getD []).length cap']) k47 f1 rfl rfl rfl ⟨(p',cap'),(cvE rfl rfl),⟨zq f1,(hM'.by fun b cs ty fr hb hc=>zt (by have:=hlt hX.C;omega)).all,zl (zst hX.bl bY) (by omega) _⟩,h40⟩
 clear hX X;rintro⟨p1,cap1⟩ X ⟨hX,h40⟩;dsimp only at hX ⊢;refine⟨Unit,fun _=>⟨[(2,At0 L)],[]⟩,fun _ Y=>X=Y/\R.2.2=0,?_,?_⟩
 ·refine biE (fun h=>?_) fun h=>?_
  ·have h:R.2.2≠0:=by simpa using h
   have h0:R.1.getD []=[]:=by rw [herr.2 h];rfl
   refine⟨_,zc (za hX.C) (i:=0) rfl,?_⟩;rw [h0];refine brT (cmo (aw hX.bl) ?_);rintro e Y ⟨rfl,bY⟩;exact⟨rfl,bY⟩
  ·have h:R.2.2=0:=by simpa using h
   exact⟨(),(cvE rfl rfl),rfl,h⟩
 rintro _ _ ⟨rfl,hr0⟩;obtain⟨l,hl⟩:=nm (R.1.getD []);rw [<- hl] at hX h40;clear hl herr hR hr0 R hM;refine⟨Unit,fun _=>⟨[(2,At0 L),(12,zn (((jt l).map (·.1)).getD [])),(13,i64 (if (jt l).isSome then 0 else 2))],[]⟩,fun _ X=>BkB w L l p1 cap1 X,?_,?_⟩
 ·refine⟨_,rfl,za hX.C,hlt hX.C,cmo (ze8 (cap:=cap1) (hG.k.below hX.bl) hX.M.all (by omega)) ?_⟩;rintro e Y ⟨rfl,bY⟩;exact⟨(),(cvE rfl rfl),hX.below bY⟩
 clear hX X;rintro _ X hX;refine⟨Bs×(Bs->Bool),fun y=>⟨[(2,At0 L),(12,zn y.1)],[]⟩,fun y Y=>X=Y/\jt l=some y,?_,?_⟩
 ·cases hx:jt l with
  | none =>
   refine brT (brT ⟨_,rfl,za hX.C,hlt hX.C,cmo (zeh (cap:=cap1) (hG.k.below hX.bl) hX.M.all (by omega)) ?_⟩);rintro e Y ⟨rfl,bY⟩;rw [hx];refine brT (cmo (aw (zst hX.bl bY)) ?_);rintro e Z ⟨rfl,bZ⟩;exact⟨rfl,bZ⟩
  | some r =>
   exact brF ⟨r,(cvE rfl rfl),rfl,rfl⟩
 rintro⟨T,lets⟩ _ ⟨rfl,hx⟩;obtain⟨hp1,hp2,hw⟩:=zhx hx;obtain⟨-,-,-,-,-,h8,-⟩:=zd8 hx;dsimp only;refine⟨Nat×OA×Nat,fun y=>⟨[(2,At0 L),(12,zn T),(14,At0 y.1),(16,i64 0)],[]⟩,fun y X=>BkB w L l p1 cap1 X/\X.heap[y.1]?=some (.cells #[.slice y.2.1 l.length y.2.2] 47 (0,0))/\LinsM jL X y.2.1 l,?_,?_⟩
 ·refine cmo (zcO (hG.k.below hX.bl) T (by omega)) ?_;rintro e Y ⟨⟨p',cap',rfl,_,hM'⟩,bY⟩;rw [hp1] at hM' ⊢;exact zk (X:=Y) (v := .agg #[.slice p' l.length cap']) k47 rfl rfl rfl fun Z hbZ fZ sZ=>⟨(Y.heap.size,p',cap'),(cvE rfl rfl),(hX.below bY).below hbZ,fZ,(hM'.below hbZ).all⟩
 clear hX X;rintro⟨d,p2,cap2⟩ X ⟨hX,fd,hM2⟩;dsimp only at fd hM2 ⊢;refine⟨Unit,fun _=>⟨[(2,At0 L),(12,zn T),(14,At0 d),(16,i64 0),(17,zn T),(18,i64 0)],[]⟩,fun _ X=>BkB w L l p1 cap1 X/\X.heap[d]?=some (.cells #[.slice p2 l.length cap2] 47 (0,0))/\LinsM jL X p2 l,?_,?_⟩
 ·refine⟨_,rfl,za fd,hlt fd,cmo (ze8 (cap:=cap2) (hG.k.below hX.bl) hM2.all (by omega)) ?_⟩;rintro e Y ⟨rfl,bY⟩;rw [hx];exact⟨(),(cvE rfl rfl),hX.below bY,zb bY fd,hM2.below bY⟩
 clear hX fd hM2 X;rintro _ X ⟨hX,fd,hM2⟩;refine⟨Unit,fun _=>⟨[(2,At0 L),(12,zn T)],[]⟩,fun _ X=>BkB w L l p1 cap1 X,?_,?_⟩
 ·refine brF (brF ⟨.bool false,fun w=>(zdu _ _ T T w).trans (by rw [Ut rfl];rfl),brF ⟨_,rfl,za hX.C,hlt hX.C,_,rfl,za fd,hlt fd,cmo (zdG (c:=cap1) (d:=cap2) (by omega) (by omega) hX.M hM2) ?_⟩⟩);rintro e U ⟨rfl,bU⟩;rw [zcw];replace hX:=hX.below bU;replace fd:=zb bU fd;replace hM2:=hM2.below bU;clear bU X;refine brF (biE (fun h=>?_) fun h=>?_)
  ·refine brT (brT ⟨.bool true,fun w=>(zE _ _ T T w).trans (by rw [Ut rfl]),brT ⟨_,rfl,za hX.C,hlt hX.C,_,rfl,za fd,hlt fd,cmo (zdG (c:=cap1) (d:=cap2) (by omega) (by omega) hX.M hM2) ?_⟩⟩);rintro e V ⟨rfl,bV⟩;rw [zcw];refine brT (cmo (aw (zst hX.bl bV)) ?_);rintro e Z ⟨rfl,bZ⟩;exact⟨rfl,bZ⟩
  ·exact⟨(),(cvE rfl rfl),hX⟩
 clear hX fd hM2 X;rintro _ X hX;obtain⟨m,hm⟩:=hmax;have hc:∀ {X:Wd},Bw w X->X.cell? ⟨5,0,none⟩=some (.int .i64 m):=fun {X} b=>zef (zw b (show zo w ⟨5,0,none⟩ [.int .i64 m] from qt fun i v h=>by
  cases i with
  | zero=>cases h;exact hm
  | succ i=>simp at h))
 refine⟨Unit,fun _=>⟨[(2,At0 L),(19,zn (zaO T))],[]⟩,fun _ X=>BkB w L l p1 cap1 X,?_,?_⟩
 ·refine cmo (Tryz.strings_ReplaceAll (bs T) (bs [32]) (bs [9,32]) m X (by show T.length<_;omega) (hc hX.bl) (by decide) ?_) ?_
  ·have:=Lib.count_le T [32];show T.length+Lib.count T [32]*2<=_;omega
  obtain⟨T2,hT2⟩:=nm (Lib.replaceAll T [32] [9,32]);rintro e Y ⟨he,bY⟩;obtain rfl:e = .returned (zn T2):=he.trans (by rw [hT2];rfl);replace hX:=hX.below bY;clear bY X;have l2:T2.length<=2*T.length:=by rw [hT2,ziV (by decide)];exact zf2 2 (by decide) (by decide) T
  rw [<- hT2] at hw;have hw:zaO T=Lib.replaceAll T2 [10] [32,35,32,97,115,32,112,111,10,10]:=hw;refine cmo (Tryz.strings_ReplaceAll (bs T2) (bs [10]) (bs [32,35,32,97,115,32,112,111,10,10]) m Y (by show T2.length<_;omega) (hc hX.bl) (by decide) ?_) ?_
  ·have:=Lib.count_le T2 [10];show T2.length+Lib.count T2 [10]*10<=_;omega
  rintro e Z ⟨he2,bZ⟩;obtain rfl:e = .returned (zn (zaO T)):=he2.trans (by rw [hw];rfl);exact⟨(),(cvE rfl rfl),hX.below bZ⟩
 clear hX X;rintro _ X hX;have l3:(zaO T).length<=10*(2*T.length):=UT (zf2 10 (by decide) (by decide) _) (Us (Gc _) (zf2 2 (by decide) (by decide) T));refine⟨Nat×OA×Nat,fun y=>⟨[(2,At0 L),(19,zn (zaO T)),(20,At0 y.1),(22,i64 (zV (zaO T)).2.2)],[]⟩,fun y X=>BkB w L l p1 cap1 X/\X.heap[y.1]?=some (.cells #[.slice y.2.1 ((zV (zaO T)).1.getD []).length y.2.2] 47 (0,0))/\LinsM jL X y.2.1 ((zV (zaO T)).1.getD []),?_,?_⟩
 ·refine cmo (zcO (hG.k.below hX.bl) (zaO T) (by omega)) ?_;rintro e Y ⟨⟨p',cap',rfl,_,hM'⟩,bY⟩;exact zk (X:=Y) (v := .agg #[.slice p' ((zV (zaO T)).1.getD []).length cap']) k47 rfl rfl rfl fun Z hbZ fZ sZ=>⟨(Y.heap.size,p',cap'),(cvE rfl rfl),(hX.below bY).below hbZ,fZ,(hM'.below hbZ).all⟩
 clear hX X;rintro⟨d,p3,cap3⟩ X ⟨hX,fd,hM3⟩;dsimp only at fd hM3 ⊢;refine biE (fun h=>?_) fun h=>?_
 ·refine brT (cmo (aw hX.bl) ?_);rintro e Z ⟨rfl,bZ⟩;exact⟨rfl,bZ⟩
 ·have h:¬ (8192:Int)<((zaO T).length:Int):=dF h;rw [hp2 (by omega)] at fd hM3 ⊢;have hM3:LinsM jL X p3 l:=hM3;refine brT ⟨_,rfl,za fd,hlt fd,_,rfl,za hX.C,hlt hX.C,cmo (zdG (a:=l) (c:=cap3) (d:=cap1) (by omega) (by omega) hM3 hX.M) ?_⟩;rintro e V ⟨rfl,bV⟩;rw [zcw];refine brT (cmo (aw (zst hX.bl bV)) ?_);rintro e Z ⟨rfl,bZ⟩;exact⟨rfl,bZ⟩
end
end Go.Proofs.YtnadlhpkpnfmbaaGreatDoor
namespace Go.Proofs.YtnadlhpkpnfmbaaGreatDoor
open Go.Vc Go.RowKit Go.Sei
open Go.ChangeShapes Go.WideShapes Go.ChangeAt
section
variable {H:Type} {enc:TypeId×Value->H} {P:Program} {w:Wd} {base:Nat} {spare:Nat->Bool} {held:Bool} {fuel:Nat} {t:TypeId} {cs:List Value} {x:DataW H×List MemPlace}
theorem zmH (ht:P.underlying t=some (.int .u8)) (h:DataW.trod enc P w base spare held fuel t cs=some x):∃ b:UInt8,cs=[u8 b]/\x.1 = .lit (.int .u8 b.toNat):=by
 obtain⟨n,rfl,rfl,hw⟩:=DataW.trod_int ht h;have hb:=bounds_u8 hw;have e:((UInt8.ofNat n.toNat).toNat:Int)=n:=by
  rw [KH];omega
 exact⟨UInt8.ofNat n.toNat,by rw [u8,e],by rw [e]⟩
theorem zgP {n:Nat} {e:TypeId} (ht:P.underlying t=some (.array n e)) (he:P.underlying e=some (.int .u8)) (hc:P.cellsOf e=1) (hn:P.cellsOf t=n)
  (h:DataW.trod enc P w base spare held fuel t cs=some x):∃ bs:List UInt8,bs.length=n/\cs=bs.map u8/\x.1 = .agg (bs.map fun b => .lit (.int .u8 b.toNat)):=by
 obtain⟨xs,m,rfl,rfl,hl,hx,hel⟩:=DataW.trod_array ht h;rw [hn] at hl;have each:∀ i (h:i<n),∃ b:UInt8,cs[i]?=some (u8 b)/\xs[i]?.map (·.1)=some (.lit (.int .u8 b.toNat)):=fun i hi=>by
  have h1:=hel i hi;rw [hc,gE (by omega)] at h1;obtain⟨b,h2,h3⟩:=zmH he h1;refine⟨b,?_,by rw [gE (by omega),Uf,h3]⟩;have:((cs.drop (i*1)).take 1)[0]?=some (u8 b):=by rw [h2];rfl
  simpa using this
 have:∀ k,k<=n->∃ bs:List UInt8,bs.length=k/\cs.take k=bs.map u8/\(xs.take k).map (·.1)=bs.map fun b => .lit (.int .u8 b.toNat):=by
  intro k
  induction k with
  | zero=>exact fun _=>⟨[],rfl,by simp,by simp⟩
  | succ k ih =>
   intro hk;obtain⟨bs,h1,h2,h3⟩:=ih (by omega);obtain⟨b,h4,h5⟩:=each k (by omega);have hk1:k<cs.length:=by omega
   have hk2:k<xs.length:=by omega
   rw [gE hk1] at h4;rw [gE hk2] at h5;refine⟨bs++[b],by simp [h1],?_,?_⟩
   ·rw [tsg hk1,h2,Ug h4];simp
   ·rw [tsg hk2,QT,h3];simp at h5;simp [h5]
 obtain⟨bs,h1,h2,h3⟩:=this n (Gc _);rw [JE (by omega)] at h2 h3;exact⟨bs,h1,h2,by rw [<- h3]⟩
theorem zs9 (ht:P.underlying t=some (.int .i64)) (h:DataW.trod enc P w base spare held fuel t cs=some x):∃ b:Int,cs=[i64 b]/\x.1 = .lit (.int .i64 b):=by
 obtain⟨n,rfl,rfl,_⟩:=DataW.trod_int ht h;exact⟨n,rfl,rfl⟩
theorem zmI {n:Nat} {e:TypeId} (ht:P.underlying t=some (.array n e)) (he:P.underlying e=some (.int .i64)) (hc:P.cellsOf e=1) (hn:P.cellsOf t=n)
  (h:DataW.trod enc P w base spare held fuel t cs=some x):∃ bs:List Int,bs.length=n/\cs=bs.map i64/\x.1 = .agg (bs.map fun b => .lit (.int .i64 b)):=by
 obtain⟨xs,m,rfl,rfl,hl,hx,hel⟩:=DataW.trod_array ht h;rw [hn] at hl;have each:∀ i (h:i<n),∃ b:Int,cs[i]?=some (i64 b)/\xs[i]?.map (·.1)=some (.lit (.int .i64 b)):=fun i hi=>by
  have h1:=hel i hi;rw [hc,gE (by omega)] at h1;obtain⟨b,h2,h3⟩:=zs9 he h1;refine⟨b,?_,by rw [gE (by omega),Uf,h3]⟩;have:((cs.drop (i*1)).take 1)[0]?=some (i64 b):=by rw [h2];rfl
  simpa using this
 have:∀ k,k<=n->∃ bs:List Int,bs.length=k/\cs.take k=bs.map i64/\(xs.take k).map (·.1)=bs.map fun b => .lit (.int .i64 b):=by
  intro k
  induction k with
  | zero=>exact fun _=>⟨[],rfl,by simp,by simp⟩
  | succ k ih =>
   intro hk;obtain⟨bs,h1,h2,h3⟩:=ih (by omega);obtain⟨b,h4,h5⟩:=each k (by omega);have hk1:k<cs.length:=by omega
   have hk2:k<xs.length:=by omega
   rw [gE hk1] at h4;rw [gE hk2] at h5;refine⟨bs++[b],by simp [h1],?_,?_⟩
   ·rw [tsg hk1,h2,Ug h4];simp
   ·rw [tsg hk2,QT,h3];simp at h5;simp [h5]
 obtain⟨bs,h1,h2,h3⟩:=this n (Gc _);rw [JE (by omega)] at h2 h3;exact⟨bs,h1,h2,by rw [<- h3]⟩
end
theorem zqf:Tryz.prog.cellsOf 5=1:=by kernel_rfl
theorem zkX (b o i:Nat):(⟨b,o,none⟩:Addr).add i=⟨b,o+i,none⟩:=by
 unfold Addr.add;by_cases h:i=0
 ·simp [h]
 ·simp [h]
section
variable {w:Wd} {base:Nat} {cs:List Value}
theorem zjn {a:Addr} {n:Nat} (hn:0<n) (h:w.cells? base a n=some cs):a.spot=none/\a.block<w.heap.size/\zo w ⟨a.block,a.off,none⟩ cs:=by
 obtain⟨_,hl,hc⟩:=World.cells?_some h;have h0:=hc 0 hn;rw [gE (by omega)] at h0;have hs:a.spot=none:=by simpa [Addr.add] using World.cell?_spot h0
 obtain⟨b,o,s⟩:=a;dsimp only at hs;subst hs;refine⟨rfl,Jy _ _ h0,qt fun i v hv=>?_⟩;have hi:i<n:=by have:=(Jq.1 hv).1;omega
 have:=(hc i hi).trans hv;rw [zkX] at this;exact this
end
theorem zoX:ownKnob Tryz.prog.godebug=none:=by kernel_rfl
theorem zer:laidOutB PG=true:=by kernel_rfl
section
variable {H:Type} {enc:TypeId×Value->H} {P:Program} {w:Wd} {base:Nat} {spare:Nat->Bool} {held:Bool} {fuel:Nat} {t e:TypeId} {cs:List Value} {x:DataW H×List MemPlace}
def Opens (enc:TypeId×Value->H) (P:Program) (w:Wd) (base:Nat) (spare:Nat->Bool) (held:Bool) (t:TypeId) (R:List Value->Prop):Prop :=
 ∀ fuel cs x,DataW.trod enc P w base spare held fuel t cs=some x->R cs
theorem Opens.field {fs:Array Field} {R:List Value->Prop} {i:Nat} {f:Field} {n:Nat} {xs:List (DataW H×List MemPlace)} {m:Nat} (hel:∀ (i:Nat) (f:Field),fs[i]?=some f->DataW.trod enc P w base spare held m f.type ((cs.drop f.offset).take (P.cellsOf f.type))=xs[i]?)
  (hl:xs.length=fs.size) (hi:fs[i]?=some f) {o:Nat} (hoo:f.offset=o) (hn:P.cellsOf f.type=n) (ho:Opens enc P w base spare held f.type R):R ((cs.drop o).take n):=by
 subst hoo;have h1:=hel i f hi;have:i<fs.size:=(Jk.1 hi).1;rw [gE (by omega),hn] at h1;exact ho _ _ _ h1
theorem zkc (ht:P.underlying t=some (.int .u8)):Opens enc P w base spare held t fun cs=>∃ b:UInt8,cs=[u8 b]:=fun fuel cs x h=>by
 obtain⟨b,h,_⟩:=zmH ht h;exact⟨b,h⟩
theorem zrl {β:Type} {n:Nat} (i0:β) {Q:Nat->β->Prop} (h:∀ i,i<n->∃ b,Q i b):∃ bs:List β,bs.length=n/\∀ i (hi:i<bs.length),Q i bs[i]:=by
 have h2:∀ i,∃ b,i<n->Q i b:=fun i=>by
  by_cases hi:i<n
  ·obtain⟨b,hb⟩:=h i hi;exact⟨b,fun _=>hb⟩
  ·exact⟨i0,fun h=>Gy h hi⟩
 obtain⟨g,hg⟩:=Classical.axiomOfChoice h2;refine⟨(List.range n).map g,by simp,fun i hi=>?_⟩;simp only [Qr,Ky];exact hg i (by simpa using hi)
theorem cut (cs:List Value) (o n o':Nat) (h:o+n=o'):cs.drop o=(cs.drop o).take n++cs.drop o':=by
 rw [<- h,<- Um,JQ]
end
theorem cC (t n:Nat) (h:Tryz.prog.cellsOf t=n):Tryz.prog.cellsOf t=n:=h
theorem zeu {H:Type} {enc:TypeId×Value->H} {a:Assume} {C:Checked} {os:Os} {f:FuncId} {fn:Func} {s:ChangeSpec} {conds:List PathCond} {apart fresh handsOn again:Bool} {X:Wd->Array Value->Prop}
  (hX:∀ (w w':Wd) (args:Array Value),w.heap=w'.heap->X w args->X w' args)
  (own:ownKnob C.prog.godebug=none) (started:os.Started) (noInit:C.prog.inits.idxOf? f=none) (hfn:C.prog.funcs[f]?=some fn)
  (witness:∃ (w:Wd) (tape:Tape) (i:Input),w.os=os/\(w.forCall tape i).Shaped C.prog/\i.vars=[]/\Input.okWide C.prog (w.forCall tape i) .any w.heap.size f i /\
   ((s.pre enc C.prog fn conds apart (w.forCall tape i).memory i.args/\X (w.forCall tape i).memory i.args)/\sizedMet enc C.prog fn (OpenSpec.ofChange s) apart (w.forCall tape i).memory i.args)/\a.holds C.prog (lone (Frame.enter C.prog f i.args .normal) [] (w.forCall tape i)))
  (contract:∀ (W:Wd) (base:Nat) (args:Array Value) (ds gs:List (DataW H)) (before:List MemPlace),
   (∀ (j:Nat) t v,fn.params[j]?=some t->args[j]?=some v->Value.okWide C.prog W .any base t v) ->
   DataW.Whole enc C.prog fn.params.toList s.vars apart W args.toList ds gs before->X W args->W.ShapedOpen C.prog ->
   (∃ ds gs before,DataW.Whole enc C.prog fn.params.toList (OpenSpec.ofChange s).vars apart W args.toList ds gs before/\∀ n∈DataW.weightsEach C.prog (fn.params.toList++(OpenSpec.ofChange s).bare.plain.varTypes C.prog) (ds++gs),n<=reachBytes) ->
   Calls C.prog f args W fun e W'=>∃ v,e = .returned v/\s.post enc C.prog fn apart fresh handsOn again W args v W') :
  ReturnsInHanded a C os f .any (fun w args=>(s.pre enc C.prog fn conds apart w args/\X w args)/\sizedMet enc C.prog fn (OpenSpec.ofChange s) apart w args) (s.post enc C.prog fn apart fresh handsOn again):=by
 refine returnsInHanded_of_calls own started noInit witness ?_;intro w tape i _ hsh _ hok hpre hholds;obtain⟨_,_,_,fn',hfn',_,_,_,_,hval⟩:=hok;have e:fn'=fn:=Ug (hfn'.symm.trans hfn);subst e;obtain⟨⟨⟨ds,gs,before,hw,hc⟩,hx⟩,hz⟩:=hpre;have hw':=DataW.Whole.of_heap (w':=w.forCall tape i) (by rfl) hw;obtain⟨_,ds2,gs2,before2,hw2,hall⟩:=hz;refine (contract (w.forCall tape i) w.heap.size i.args ds gs before hval hw' (hX _ _ _ (by rfl) hx) hsh ⟨ds2,gs2,before2,DataW.Whole.of_heap (w':=w.forCall tape i) (by rfl) hw2,fun n hn=>dT (Qk.1 hall n hn)⟩).mono fun e W' ⟨v,he,hp⟩=>?_;subst he;exact ChangeSpec.post_blind hp
section
variable {H:Type} {enc:TypeId×Value->H} {P:Program} {w:Wd} {base:Nat} {spare:Nat->Bool} {held:Bool} {fuel:Nat} {t:TypeId} {cs:List Value} {x:DataW H×List MemPlace}
def Wgt (P:Program) (t:TypeId) (d:DataW H):Prop:=∀ n∈d.weights P t,n<=reachBytes
theorem zqJ {ds:List (DataW H)} {e:TypeId} (h:∀ n∈DataW.weightsAll P e ds,n<=reachBytes):∀ d∈ds,Wgt P e d:=by
 induction ds with
 | nil=>intro d hd;cases hd
 | cons a r ih =>
  intro d hd;simp only [DataW.weightsAll,QU] at h;rcases UF.1 hd with rfl | hd
  ·exact fun n hn=>h n (.inl hn)
  ·exact ih (fun n hn=>h n (.inr hn)) d hd
end
theorem zg0 {H:Type}:∀ {a b:List UInt8},a.map (fun b=>(DataW.lit (.int .u8 b.toNat):DataW H))=b.map (fun b=>DataW.lit (.int .u8 b.toNat))->a=b
 | [],[],_=>rfl
 | [],_::_,h=>by cases h
 | _::_,[],h=>by cases h
 | x::a,y::b,h=>by
  simp only [UE,QN,QJ,UG,Gt] at h;rw [zg0 h.2,Uh.1 (by omega:x.toNat=y.toNat)]
set_option linter.unusedSectionVars false
section
variable {H:Type} {enc:TypeId×Value->H} {P:Program} {w:Wd} {base:Nat} {spare:Nat->Bool} {held:Bool} {fuel:Nat} {t:TypeId} {cs:List Value} {x:DataW H×List MemPlace}
theorem zgQ {n:Nat} {e:TypeId} (ht:P.underlying t=some (.array n e)) (he:P.underlying e=some .string) (hc:P.cellsOf e=1) (hn:P.cellsOf t=n)
  (h:DataW.trod enc P w base spare held fuel t cs=some x):∃ ls:List (List UInt8),ls.length=n/\cs=ls.map zn/\x.1 = .agg (ls.map fun b => .lit (.string b)):=by
 obtain⟨xs,m,rfl,rfl,hl,hx,hel⟩:=DataW.trod_array ht h;rw [hn] at hl;have each:∀ i (h:i<n),∃ b:List UInt8,cs[i]?=some (zn b)/\xs[i]?.map (·.1)=some (.lit (.string b)):=fun i hi=>by
  have h1:=hel i hi;rw [hc,gE (by omega)] at h1;obtain⟨s,h2,h3,_⟩:=DataW.trod_string he h1;have es:Value.string s=zn s.data.toList:=by unfold zn bs;cases s;rfl
  refine⟨s.data.toList,?_,by rw [gE (by omega),Uf,h3]⟩;have:((cs.drop (i*1)).take 1)[0]?=some (zn s.data.toList):=by rw [h2,es];rfl
  simpa using this
 have:∀ k,k<=n->∃ ls:List (List UInt8),ls.length=k/\cs.take k=ls.map zn/\(xs.take k).map (·.1)=ls.map fun b => .lit (.string b):=by
  intro k
  induction k with
  | zero=>exact fun _=>⟨[],rfl,by simp,by simp⟩
  | succ k ih =>
   intro hk;obtain⟨ls,h1,h2,h3⟩:=ih (by omega);obtain⟨b,h4,h5⟩:=each k (by omega);have hk1:k<cs.length:=by omega
   have hk2:k<xs.length:=by omega
   rw [gE hk1] at h4;rw [gE hk2] at h5;refine⟨ls++[b],by simp [h1],?_,?_⟩
   ·rw [tsg hk1,h2,Ug h4];simp
   ·rw [tsg hk2,QT,h3];simp at h5;simp [h5]
 obtain⟨ls,h1,h2,h3⟩:=this n (Gc _);rw [JE (by omega)] at h2 h3;exact⟨ls,h1,h2,by rw [<- h3]⟩
theorem zgv:∀ {a b:List (List UInt8)},(a.map fun b=>(DataW.lit (.string b):DataW Unit))=(b.map fun b => .lit (.string b))->a=b
 | [],[],_=>rfl
 | [],_::_,h=>by cases h
 | _::_,[],h=>by cases h
 | x::r,y::t,h=>by
  simp only [UE,QN,QJ,Lit.string.injEq] at h;rw [h.1,zgv h.2]
def zoN:List Int:=[0,0,1,2,3,4,0,0,0,0]
theorem znP {r:Reach} {base':Nat} {v:Value} {d:DataW H} {p:List MemPlace} (ht:P.underlying t=some .string) (hok:Value.okWide P w r base' t v) (h:DataW.Trod enc P w base spare held t v d p) (hw:∀ n∈DataW.weights P t d,n<=reachBytes):∃ s:List UInt8,v=zn s/\s.length<=140737488351232:=by
 unfold Value.okWide at hok;rw [ht] at hok
 cases v with
 | string s0 =>
  obtain⟨fuel,h⟩:=h;obtain⟨s,h2,h3,_⟩:=DataW.trod_string ht h;have h2:[Value.string s0]=[Value.string s]:=h2;simp only [QN,Value.string.injEq,Gp] at h2;subst h2;have h3:d = .lit (.string s0.data.toList):=Gq Prod.fst h3;refine⟨s0.data.toList,by unfold zn bs;cases s0;rfl,hw _ ?_⟩;rw [h3];simp only [DataW.weights,KA]
 | _=>simp_all [Cell.okWide,Cell.ok]
theorem zpO {W:Wd} (h1:zo W ⟨3,0,none⟩ (zS.map zn)) (h2:zo W ⟨1,0,none⟩ (zoN.map i64)) (h3:zo W ⟨2,0,none⟩ (jz.map zn)) (h4:zo W ⟨0,0,none⟩ (zeE.map i64)) (h5:GlobC W) (h6:Tz64M W) (h7:Tz32M W):GlobA W:=by
 refine⟨⟨h1,h2,h3,h4,?_⟩,⟨h5,h6,h7⟩⟩;have h0:=h1 0 _ rfl;unfold World.cell? at h0
 split at h0
 ·rename_i hb;exact hlt hb
 ·cases h0
end
end Go.Proofs.YtnadlhpkpnfmbaaGreatDoor
