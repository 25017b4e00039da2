/- Contracts of functions, and plain facts, for the law that the last text of this claim proves. -/
import Derived.Test.YtkpaomeeknegpaaGreatDoorF4
import Derived.Test.YtkpaomeeknegpaaGreatDoorF2
import Derived.Test.YtkpaomeeknegpaaGreatDoorF3
import Derived.Sort.AssemblyPlain
set_option linter.unusedSimpArgs false
set_option linter.unusedVariables false
namespace Go.Proofs.YtkpaomeeknegpaaGreatDoor
open Go.Vc Go.RowKit Go.Sei
section
variable {b c:Nat} {x:ExD} {q:OA} {w:Wd}
theorem zi1 {X:Wd} {o:Nat} {A T:List Value} {r:RelD} (fx:ExH X b x q c) (hA:A.length=o) (hE:exC x q c=A++(zf r++T)) {i:Nat} (hi:i<48):X.cell? ⟨b,o+1+i*1,none⟩=some (s64 (r.to i)):=by
 have hR:RelAt X b o 46 A T r:=⟨hA,by rw [<- hE];exact fx⟩;exact hR.cell hi
theorem zs2 {X:Wd} (fx:ExH X b x q c) {i:Nat} (hi:i<48):X.cell? ⟨b,0+1+1+i*1,none⟩=some (s64 (x.po.to i)):=by
 obtain⟨A,T,hA,hE⟩:=znb x q c [];exact zi1 fx hA (by rw [<- hE,QF]) hi
theorem ztu {X:Wd} (fx:ExH X b x q c) {i:Nat} (hi:i<48):X.cell? ⟨b,0+148+1+i*1,none⟩=some (s64 (x.dt.to i)):=by
 obtain⟨A,T,hA,hE⟩:=znc x q c [];exact zi1 fx hA (by rw [<- hE,QF]) hi
theorem ztE {X:Wd} (fx:ExH X b x q c) {i:Nat} (hi:i<48):X.cell? ⟨b,0+197+1+i*1,none⟩=some (s64 (x.ct.to i)):=by
 obtain⟨A,T,hA,hE⟩:=znd x q c [];exact zi1 fx hA (by rw [<- hE,QF]) hi
theorem zsT {X:Wd} (fx:ExH X b x q c) {i:Nat} (hi:i<48):X.cell? ⟨b,0+246+1+i*1,none⟩=some (s64 (x.rm.to i)):=by
 obtain⟨A,T,hA,hE⟩:=zm9 x q c [];exact zi1 fx hA (by rw [<- hE,QF]) hi
theorem n64 {a b:Nat} (h:(!decide ((a:Int)=(b:Int)))=true):¬ a=b:=fun e=>by
 rw [e] at h;simp at h
theorem y64 {a b:Nat} (h:(!decide ((a:Int)=(b:Int)))=false):a=b:=by
 have h:(a:Int)=(b:Int):=by simpa using h
 exact Uu h
theorem n8 {a d:UInt8} (h:(!decide ((a.toNat:Int)=(d.toNat:Int)))=true):¬ a=d:=fun e2=>by
 rw [e2] at h;simp at h
theorem y8 {a d:UInt8} (h:(!decide ((a.toNat:Int)=(d.toNat:Int)))=false):a=d:=qq.1 (by simpa using h)
def wrG (x:ExD) (k:Nat):Nat:=(List.range k).foldl (fun s i=>if (evA x i).k=2 then s|||2^i else s) 0
theorem zjL (x:ExD) (k:Nat):wrG x (k+1)=if (evA x k).k=2 then wrG x k|||2^k else wrG x k:=by
 unfold wrG;rw [QR,KQ];rfl
theorem ziN (x:ExD):∀ k,k<=64->wrG x k<2^64
 | 0,_=>by show 0<_;decide
 | k+1,h=>by
  rw [zjL]
  split
  ·exact KV (ziN x k (by omega)) (zZ (by omega))
  ·exact ziN x k (by omega)
theorem zmb (fx:ExH w b x q c) (hv:ExW w x q) (hrn:x.rm.n=x.ev.length) (hok:okR x.rm=true) (hT:Tz64M w) :
  CB 46 #[At0 b] w (.bool (zaA x)):=by
 refine qk 130 [At0 b] (.s .p (.s .p (.c .p .p))) Tryz.func46 ?_;have hn:=hv.n;obtain⟨W,hW⟩:=nm (zaR x);have hWG:W=wrG x x.ev.length:=by rw [hW];rfl
 have hW64:W<2^64:=by rw [hWG];exact ziN x _ (by omega)
 refine⟨Unit,fun _=>⟨[(0,At0 b),(3,s64 W),(4,s64 0)],[]⟩,fun _ X=>Bw w X,?_,?_⟩
 ·refine⟨_,zc (za fx) (i:=0) rfl,?_⟩;refine⟨Nat,fun k=>⟨[(0,At0 b),(3,s64 (wrG x k)),(4,s64 0),(17,.slice q x.ev.length c),(18,i64 x.ev.length),(19,i64 (k:Nat))],[]⟩,fun k X=>k<=x.ev.length/\Bw w X,fun k=>x.ev.length-k,0,
   (cvE rfl rfl),⟨UU _,UW _ _⟩,?_⟩
  rintro k X ⟨hk,hbX⟩;dsimp only;refine biE (fun hc=>?_) fun hc=>?_
  ·have hc:(k:Int)<(x.ev.length:Int):=dT hc;have hkl:k<x.ev.length:=by omega
   obtain⟨bq,oq,hqe,hb,hat⟩:=zch (hv.ev.below hbX) hkl;rw [zek] at hat;obtain⟨e,he⟩:=nm (evA x k);have hs:=zjL x k;rw [<- he] at hat hs;subst hqe;refine⟨k,rfl,hkl,evE.enc e,rfl,hat,hb,zo (X:=X) (v := .agg (evE.enc e).toArray) k49 rfl rfl (Qg.2 fun u hu=>evE.one e u hu) fun Y hbY fY sY=>?_⟩;have fY:Y.heap[X.heap.size]?=some (.cells (evE.enc e).toArray 49 (0,0)):=fY;have hbY2:=zst hbX hbY;refine⟨u8 e.k,zc (za fY) (i:=1) rfl,biE (fun h=>?_) fun h=>?_⟩
   ·have h:e.k=2:=qq.1 (dT h);rw [Gi h] at hs;exact⟨by omega,((2^k:Nat):Int),jX (e:=k) (by omega),((wrG x k|||2^k:Nat):Int),zaf (ziN x k (by omega)) (zZ (by omega)),nxI (by omega) ⟨k+1,⟨.cons rfl (.cons (by show _=some (s64 (wrG x (k+1)));rw [hs];rfl) (.cons rfl (.cons rfl (.cons rfl (.cons rfl .nil))))),rfl⟩,⟨hkl,hbY2⟩,zdc (by omega)⟩⟩
   ·have h:¬ e.k=2:=fun e2=>(dF h) (by rw [e2];rfl);rw [Gh h] at hs;exact nxI (by omega) ⟨k+1,⟨.cons rfl (.cons (by show _=some (s64 (wrG x (k+1)));rw [hs];rfl) (.cons rfl (.cons rfl (.cons rfl (.cons rfl .nil))))),rfl⟩,⟨hkl,hbY2⟩,zdc (by omega)⟩
  ·have hc:¬ (k:Int)<(x.ev.length:Int):=dF hc;obtain rfl:k=x.ev.length:=by omega
   exact⟨(),⟨.cons rfl (.cons (by show _=some (s64 W);rw [hWG];rfl) (.cons rfl .nil)),rfl⟩,hbX⟩
 rintro _ X hbX;refine⟨_,zc (za (zb hbX fx)) (i:=0) rfl,?_⟩;have hdep:zaA x=zbl x W 0 x.ev 0:=by rw [hW];rfl
 refine⟨Nat×Nat,fun s=>⟨[(0,At0 b),(3,s64 W),(4,s64 s.2),(35,.slice q x.ev.length c),(36,i64 x.ev.length),(37,i64 (s.1:Nat))],[]⟩,fun s X=>s.1<=x.ev.length/\zbl x W s.1 (x.ev.drop s.1) s.2=zaA x/\s.2<2^64/\Bw w X,fun s=>x.ev.length-s.1,(0,0),
  (cvE rfl rfl),⟨UU _,hdep.symm,by decide,hbX⟩,?_⟩
 clear hbX;rintro⟨k,h⟩ X ⟨hk,hgo,hh,hbX⟩;dsimp only at hk hgo hh ⊢;refine biE (fun hc=>?_) fun hc=>?_
 ·have hc:(k:Int)<(x.ev.length:Int):=dT hc;have hkl:k<x.ev.length:=by omega
  have hk48:k<48:=by omega
  obtain⟨bq,oq,hqe,hb,hat⟩:=zch (hv.ev.below hbX) hkl;rw [zek] at hat;obtain⟨e,he⟩:=nm (evA x k);rw [<- he] at hat;have hdrp:x.ev.drop k=e::x.ev.drop (k+1):=by
   rw [<- JE hkl,he];unfold evA;rw [gDe,gE hkl];rfl
  rw [hdrp] at hgo;unfold zbl at hgo;obtain⟨d,hd⟩:=nm (x.dt.to k);obtain⟨t,ht⟩:=nm (x.ct.to k);obtain⟨r,hr⟩:=nm (x.rm.to k);obtain⟨po,hpo⟩:=nm (x.po.to k);dsimp only at hgo;rw [<- hd,<- ht,<- hr,<- hpo] at hgo;have d64:d<2^64:=by rw [hd];exact hv.dt k hk48
  have t64:t<2^64:=by rw [ht];exact hv.ct k hk48
  have r64:r<2^64:=by rw [hr];exact hv.rm k hk48
  have p64:po<2^64:=by rw [hpo];exact hv.po k hk48
  have dt64:=KV d64 t64;have dtr64:=KV dt64 r64;have dr64:=KV d64 r64;subst hqe;refine⟨k,rfl,hkl,evE.enc e,rfl,hat,hb,zo (X:=X) (v := .agg (evE.enc e).toArray) k49 rfl rfl (Qg.2 fun u hu=>evE.one e u hu) fun Y hbY fY sY=>?_⟩;have fY:Y.heap[X.heap.size]?=some (.cells (evE.enc e).toArray 49 (0,0)):=fY;have hbY2:=zst hbX hbY;have dY:Bw Y Y.drew:=(UW _ _).drew;have fxY:=hdr (zb hbY2 fx);have fYd:=hdr fY;have hbD:=zst hbY2 dY;have no:∀ {Z:Wd},Bw w Z->zaA x=false->(Ending.returned (.bool false)=Ending.returned (.bool (zaA x))/\Bw w Z):=fun {Z} hb h=>⟨rb h.symm,hb⟩;refine DrawE.ord [] [0,1,2,3,4,5,6,7,8,9,10,11,12,13,14,15,16,17,18,19,20,21,22,23] (by kernel_rfl) ⟨k,rfl,hk48,s64 d,by rw [hd];exact ztu fxY hk48,?_⟩;refine⟨k,rfl,hk48,s64 t,by rw [ht];exact ztE fxY hk48,?_⟩;refine⟨k,rfl,hk48,s64 r,by rw [hr];exact zsT fxY hk48,?_⟩;refine⟨_,zaf d64 t64,_,zaf dt64 r64,biE (fun h1=>?_) fun h1=>?_⟩
  ·have h1:d|||t|||r=0:=Uu (dT h1);rw [Gi h1] at hgo;exact nxI (by omega) ⟨(k+1,h),(cvE rfl rfl),⟨hkl,hgo,hh,hbD⟩,zdc (by omega)⟩
  have h1:¬ d|||t|||r=0:=fun e2=>(dF h1) (by rw [e2];rfl);rw [Gh h1] at hgo;refine⟨u8 e.k,zc (za fYd) (i:=1) rfl,biE (fun h2=>?_) fun h2=>?_⟩
  ·have h2:¬ e.k=1:=n8 (d:=1) h2;rw [Gh fun h=>h2 h.1] at hgo;exact brT (brT (no hbD hgo.symm))
  have h2:e.k=1:=y8 (d:=1) h2;refine⟨_,zaf d64 r64,_,zck dr64 hW64,biE (fun h3=>?_) fun h3=>?_⟩
  ·have h3:¬ qP (d|||r) W=0:=n64 (b:=0) h3;rw [Gh fun h=>h3 h.2.1] at hgo;exact brT (no hbD hgo.symm)
  have h3:qP (d|||r) W=0:=y64 (b:=0) h3;refine⟨_,zaf d64 t64,_,zaf dt64 r64,k,rfl,hk48,s64 po,by rw [hpo];exact zs2 fxY hk48,?_⟩;refine⟨_,zck dtr64 p64,biE (fun h4=>?_) fun h4=>?_⟩
  ·have h4:¬ qP (d|||t|||r) po=0:=n64 (b:=0) h4;rw [Gh fun h=>h4 h.2.2] at hgo;exact no hbD hgo.symm
  have h4:qP (d|||t|||r) po=0:=y64 (b:=0) h4;rw [Gi ⟨h2,h3,h4⟩] at hgo;refine cmo (za2 r64 (hT.below hbD)) ?_;rintro e2 Z ⟨rfl,hbZ⟩;have hbZ2:=zst hbD hbZ;by_cases hr0:r=0
  ·have e1:(els r).isEmpty=true:=by rw [hr0];rfl
   rw [e1];rw [Gi hr0] at hgo;exact brF (nxI (by omega) ⟨(k+1,h),(cvE rfl rfl),⟨hkl,hgo,hh,hbZ2⟩,zdc (by omega)⟩)
  rw [Gh hr0] at hgo;obtain⟨hhd,hem⟩:=zbQ hr0 r64;rw [hhd,hem];have hmem:=zgi hr0 r64;have hbit:r.testBit (ctz r)=true:=(qM.1 hmem).2;have hvl:ctz r<x.ev.length:=by
   have:=(zje hok hv.rm hk48 (by rw [<- hr];exact hbit)).1;rw [hrn] at this;omega
  obtain⟨v,hvd⟩:=nm (ctz r);rw [<- hvd] at hvl hgo ⊢;refine brT ?_;have fZ:=zb hbZ fYd;have dZ:Bw Z Z.drew:=(UW _ _).drew;have hbZ3:=zst hbZ2 dZ;refine DrawE.ord [] [0,1,2,3,4,5,6,7,8,9,10,11,12,13,14,15,16,17,18,19,20,21,22,23] (by kernel_rfl) ⟨by omega,((2^v:Nat):Int),jX (e:=v) (by omega),biE (fun h5=>?_) fun h5=>?_⟩
  ·have h5:¬ r=2^v:=n64 h5;rw [Gh fun h=>h5 h.1] at hgo;exact brT (brT (no hbZ3 hgo.symm))
  have h5:r=2^v:=y64 h5;refine⟨by omega,_,zf3 (a:=h) (k:=v) (by omega),_,jY (a:=h/2^v) (b:=1) (KC (Nat.div_le_self _ _) hh) (by decide),?_⟩;rw [zjz]
  cases hb5:h.testBit v with
  | true =>
   rw [Gh fun h=>(by rw [hb5] at h;cases h.2.1)] at hgo;exact brT (brT (no hbZ3 hgo.symm))
  | false =>
   refine brF ?_;obtain⟨bq2,oq2,hqe2,hb2,hat2⟩:=zch (hv.ev.below hbZ3) hvl;rw [zek] at hat2;obtain⟨f,hf⟩:=nm (evA x v);rw [<- hf] at hat2 hgo;refine⟨_,zc (za (zb hbZ3 fx)) (i:=0) rfl,v,rfl,hvl,?_⟩;simp only [KW,Up,Gc] at hqe2;rw [<- hqe2.1,<- hqe2.2] at hat2;refine⟨u8 f.l,by have:=zc hat2 (i:=2) (v:=u8 f.l) rfl;exact this,u8 e.l,zc (za (hdr fZ)) (i:=2) rfl,biE (fun h6=>?_) fun h6=>?_⟩
   ·have h6:¬ f.l=e.l:=n8 h6;rw [Gh fun h=>h6 h.2.2] at hgo;exact no hbZ3 hgo.symm
   have h6:f.l=e.l:=y8 h6;rw [Gi ⟨h5,hb5,h6⟩] at hgo;exact⟨_,zaf hh r64,nxI (by omega) ⟨(k+1,h|||r),(cvE rfl rfl),⟨hkl,hgo,KV hh r64,hbZ3⟩,zdc (by omega)⟩⟩
 ·have hc:¬ (k:Int)<(x.ev.length:Int):=dF hc;obtain rfl:k=x.ev.length:=by omega
  rw [Qj] at hgo;exact⟨rb hgo,hbX⟩
end
theorem zkO {locs:Nat}:∀ (ev:List Ev) (i:Nat) (t:Int) (n:Nat),zbS locs i ev t n=true->∀ j,i+j<locs->j<ev.length->∃ v,ev.getD j ev0=⟨-1,2,UInt8.ofNat (i+j),v,0,0,0⟩
 | [],_,_,_,_,_,_,h=>by simp at h
 | e::ev,i,t,n,h,j,hj,hl=>by
  unfold zbS at h;rw [Gi (by omega:i<locs)] at h;by_cases he:e=⟨-1,2,UInt8.ofNat i,e.v,0,0,0⟩
  ·rw [Gi he] at h
   cases j with
   | zero=>exact⟨e.v,by rw [UH];exact he⟩
   | succ j =>
    obtain⟨v,hv⟩:=zkO ev (i+1) t n h j (by omega) (by simpa using hl);exact⟨v,by rw [show i+(j+1)=i+1+j by omega];exact hv⟩
  ·rw [Gh he] at h;cases h
theorem zpM (ev:List Ev):qG ev<=ev.length:=by
 unfold qG
 induction ev with
 | nil=>exact UR _
 | cons e ev ih =>
  rw [Kl]
  split
  ·rw [Qp,Qp];omega
  ·exact UU _
theorem zoH {x:ExD} {locs:Nat} (h:jr x.ev locs=true) (hl:locs<=x.ev.length) (h6:locs<=6):∀ l,l<locs->qc x l≠[]:=by
 intro l hll he;obtain⟨v,hv⟩:=zkO x.ev 0 0 0 h l (by omega) (by omega);have:l∈qc x l:=by
  unfold qc;rw [QN,Uj];refine⟨by omega,?_⟩;have h2:evA x l=⟨-1,2,UInt8.ofNat (0+l),v,0,0,0⟩:=hv;rw [h2,bAT,dE,dE];refine⟨rfl,?_⟩;show (UInt8.ofNat (0+l)).toNat=l;rw [UM,KF];exact Qz (by omega)
 rw [he] at this
 cases this
abbrev zcY (x:ExD):List RelD:=[x.po,x.rf,x.co,x.dt,x.ct,x.rm]
theorem zrL (x:ExD) (q:OA) (c:Nat) {i:Nat} (hi:i<6):((exC x q c).drop (1+49*i)).take 49=zf ((zcY x).getD i x.po):=by
 have g:∀ {A T:List Value} {o:Nat} {r:RelD},A.length=o->exC x q c=A++(zf r++T)->((exC x q c).drop o).take 49=zf r:=fun {A T o r} hA hE=>by
  rw [hE,<- hA,Ug,Jf (by rw [zg];decide),JF (by rw [zg];decide)]
 match i,hi with
 | 0,_=>obtain⟨A,T,hA,hE⟩:=znb x q c [];exact g hA (by rw [<- hE,QF];rfl)
 | 1,_=>obtain⟨A,T,hA,hE⟩:=zsC x q c [];exact g hA (by rw [<- hE,QF];rfl)
 | 2,_=>obtain⟨A,T,hA,hE⟩:=zsE x q c [];exact g hA (by rw [<- hE,QF];rfl)
 | 3,_=>obtain⟨A,T,hA,hE⟩:=znc x q c [];exact g hA (by rw [<- hE,QF];rfl)
 | 4,_=>obtain⟨A,T,hA,hE⟩:=znd x q c [];exact g hA (by rw [<- hE,QF];rfl)
 | 5,_=>obtain⟨A,T,hA,hE⟩:=zm9 x q c [];exact g hA (by rw [<- hE,QF];rfl)
theorem zq8 (L:Nat) {k:Nat} (hk:k<6):((List.range 6).map (fun i=>Value.pointer (some ⟨L,0+(1+49*i),none⟩)))[k]?=some (.pointer (some ⟨L,0+(1+49*k),none⟩)):=by
 rw [KR,Kf hk];rfl
def okX (x:ExD) (r:RelD):Bool:=decide (r.n=x.ev.length)&&okR r
section
variable {c:Nat} {x:ExD} {q:OA} {w:Wd}
theorem zfb {X:Wd} {b:Nat} (fx:ExH X b x q c) {i:Nat} (hi:i<6):zI X ⟨b,0+(1+49*i),none⟩ (zf ((zcY x).getD i x.po)):=by
 have h:=zP (n:=1+49*i) (m:=49) (za fx);rw [show (exC x q c).toArray.toList=exC x q c from rfl,zrL x q c hi] at h;exact h
theorem ExW.rel (hv:ExW w x q) {i:Nat} (hi:i<6):zJ ((zcY x).getD i x.po).to:=by
 match i,hi with
 | 0,_=>exact hv.po
 | 1,_=>exact hv.rf
 | 2,_=>exact hv.co
 | 3,_=>exact hv.dt
 | 4,_=>exact hv.ct
 | 5,_=>exact hv.rm
theorem zlh (hv:ExW w x q) (hT:Tz64M w):CB 25 #[.agg (exC x q c).toArray] w (.bool (jb x)):=by
 refine qk 70 [.agg (exC x q c).toArray] (.c .p (.c .p (.c .p (.c .p (.c .p .p))))) Tryz.func25 ?_;obtain⟨L,hL⟩:=nm (w.heap.size);have hn:=hv.n;refine⟨Unit,fun _=>⟨[(1,At0 L)],[]⟩,fun _ X=>ExH X L x q c/\Bw w X,⟨(),⟨.cons (by rw [hL];rfl) .nil,rfl⟩,by rw [hL];exact zy w _,(zba w _)⟩,?_⟩;rintro _ X ⟨fx,hbX⟩;obtain⟨n,hnn⟩:=nm (qG x.ev);refine⟨Unit,fun _=>⟨[(1,At0 L)],[]⟩,fun _ Y=>X=Y,?_,?_⟩
 ·refine⟨_,zc (za fx) (i:=0) rfl,biE (fun h=>?_) fun _=>?_⟩
  ·have h:(48:Int)<(x.ev.length:Nat):=dT h;omega
  exact⟨(),(cvE rfl rfl),rfl⟩
 rintro _ _ rfl;refine⟨Unit,fun _=>⟨[(1,At0 L),(3,i64 (n:Nat))],[]⟩,fun _ Y=>Bw X Y,?_,?_⟩
 ·refine⟨_,zc (za fx) (i:=0) rfl,cmo (zlZ (hv.below hbX).ev (by omega)) ?_⟩;rintro e Y ⟨rfl,hbY⟩;rw [<- hnn];exact⟨(),(cvE rfl rfl),hbY⟩
 rintro _ Y hbY;have hvX:=hv.below hbX;have hnl:n<=x.ev.length:=by rw [hnn];exact zpM _
 have hbwY:=zst hbX hbY;have hr0:decide (x.ev.length<=48)=true:=Un (by omega);have no:∀ {Z:Wd},Bw w Z->jb x=false->(Ending.returned (.bool false)=Ending.returned (.bool (jb x))/\Bw w Z):=fun {Z} hb h=>⟨rb h.symm,hb⟩;refine⟨Unit,fun _=>⟨[(1,At0 L),(3,i64 (n:Nat))],[]⟩,fun _ Z=>jr x.ev n=true/\(1<=n/\n<=6)/\ExH Z L x q c/\Bw w Z,?_,?_⟩
 ·refine biE (fun h1=>?_) fun h1=>?_
  ·have h1:(n:Int)<1:=dT h1;refine brT (brT (no hbwY ?_));unfold jb;rw [<- hnn,Uc (by omega:¬ 1<=n),Ue,Ud]
  have h1:¬ (n:Int)<1:=dF h1;refine biE (fun h2=>?_) fun h2=>?_
  ·have h2:(6:Int)<(n:Int):=dT h2;refine brT (no hbwY ?_);unfold jb;rw [<- hnn,Uc (by omega:¬ n<=6),Ue,Ud,Ud]
  have h2:¬ (6:Int)<(n:Int):=dF h2;have hn1:decide (1<=n)=true:=Un (by omega);have hn6:decide (n<=6)=true:=Un (by omega);have fY:=zb hbY fx;refine⟨_,zc (za fY) (i:=0) rfl,cmo (zhV (locs:=n) (hvX.below hbY).ev (by omega) (by omega)) ?_⟩;rintro e Z ⟨rfl,hbZ⟩;have hbwZ:=zst hbwY hbZ;refine biE (fun h3=>?_) fun h3=>?_
  ·have h3:jr x.ev n=false:=by
    have h3:(!jr x.ev n)=true:=h3;simpa using h3
   refine no hbwZ ?_;unfold jb;rw [<- hnn,h3,Ue,Ud,Ud,Ud]
  have h3:jr x.ev n=true:=by
   have h3:(!jr x.ev n)=false:=h3;simpa using h3
  exact⟨(),(cvE rfl rfl),h3,by omega,zb hbZ fY,hbwZ⟩
 rintro _ Z ⟨h3,⟨h1,h2⟩,fZ,hbwZ⟩;clear fx hbX hbY hbwY hvX;have hn1:decide (1<=n)=true:=Un h1;have hn6:decide (n<=6)=true:=Un h2;have hright:jb x=(zaM x&&(jt x.po (poR x.ev)&&(zaE x&&(zaG x n&&zaA x)))):=by
  unfold jb;rw [<- hnn,hr0,hn1,hn6,h3];rfl
 have hrels:zaM x=(zcY x).all (okX x):=rfl;refine⟨Unit,fun _=>⟨[(1,At0 L),(3,i64 (n:Nat))],[]⟩,fun _ U=>zaM x=true/\ExH U L x q c/\Bw w U,?_,?_⟩
 ·refine⟨⟨by decide,by decide,rfl⟩,(List.range 6).map (fun i=>Value.pointer (some ⟨L,0+(1+49*i),none⟩)),rfl,?_⟩;obtain⟨g,hg⟩:=nm (Z.heap.size);refine⟨Nat,fun k=>⟨[(1,At0 L),(3,i64 (n:Nat)),(32,.slice (some ⟨g,0,none⟩) 6 6),(33,i64 6),(34,i64 (k:Nat))],[]⟩,fun k U=>k<=6/\((zcY x).take k).all (okX x)=true/\U.heap[g]?=some (.cells ((List.range 6).map (fun i=>Value.pointer (some ⟨L,0+(1+49*i),none⟩))).toArray 103 (0,0))/\ExH U L x q c/\Bw w U,fun k=>6-k,0,
   ⟨.cons rfl (.cons rfl (.cons (by rw [hg];rfl) (.cons rfl (.cons rfl .nil)))),rfl⟩,⟨UU _,rfl,by rw [hg];exact zy Z _,qJ _ fZ,hbwZ.alloc hbwZ.size _⟩,?_⟩
  clear hg fZ hbwZ;rintro k U ⟨hk,hall,fg,fU,hbU⟩;dsimp only;refine biE (fun hc=>?_) fun hc=>?_
  ·have hc:(k:Int)<6:=dT hc;have hk6:k<6:=by omega
   obtain⟨r,hr⟩:=nm ((zcY x).getD k x.po);have hkl:k<(zcY x).length:=hk6;have htk:(zcY x).take (k+1)=(zcY x).take k++[r]:=by
    rw [tsg hkl,hr,gDe,gE hkl];rfl
   have hrw:zJ r.to:=by rw [hr];exact hv.rel hk6
   have hcel:zI U ⟨L,0+(1+49*k),none⟩ (zf r):=by rw [hr];exact zfb fU hk6
   have dU:Bw U U.drew:=(UW _ _).drew;have hrm:r∈zcY x:=by
    rw [hr,gDe,gE hkl];exact gM hkl
   have bad:∀ {Z:Wd},Bw w Z->okX x r=false->(Ending.returned (.bool false)=Ending.returned (.bool (jb x))/\Bw w Z):=fun {Z} hb h=>no hb (by
    have:zaM x=false:=by
     rw [hrels,KJ];exact⟨r,hrm,by rw [h];decide⟩
    rw [hright,this];rfl)
   refine⟨k,rfl,hk6,?_⟩;refine⟨.pointer (some ⟨L,0+(1+49*k),none⟩),by
    have:=zc (za fg) (i:=k*1) (v := .pointer (some ⟨L,0+(1+49*k),none⟩)) (by
     rw [US];exact zq8 L hk6)
    exact this,?_⟩
   refine DrawE.ord [] [0,1,2,3,4,5,6,7,8,9,10,11,12,13,14] (by kernel_rfl) ⟨i64 r.n,zc (zr dU hcel) (i:=0) rfl,_,zc (za (hdr fU)) (i:=0) rfl,biE (fun h4=>?_) fun h4=>?_⟩
   ·have h4:(!decide (r.n=(x.ev.length:Int)))=true:=h4;have h4:¬ r.n=(x.ev.length:Int):=(by simpa using h4);exact brT (bad ((zst hbU dU)) (by unfold okX;rw [Uc h4];rfl))
   have h4:(!decide (r.n=(x.ev.length:Int)))=false:=h4;have h4:r.n=(x.ev.length:Int):=by simpa using h4
   refine⟨zf r,zg _,zr dU hcel,hlt (hdr fU),cmo (jV hrw) ?_⟩;rintro e V ⟨rfl,hbV⟩;refine⟨hbV,?_⟩;have hbV2:=hbU.trans ((dU.trans hbV).mono hbU.size);refine biE (fun h5=>?_) fun h5=>?_
   ·have h5:okR r=false:=by
     have h5:(!okR r)=true:=h5;simpa using h5
    exact bad hbV2 (by unfold okX;rw [h5,Ud])
   have h5:okR r=true:=by
    have h5:(!okR r)=false:=h5;simpa using h5
   refine nxI (by omega) ⟨k+1,(cvE rfl rfl),⟨hk6,?_,zb (dU.trans hbV) fg,zb (dU.trans hbV) fU,hbV2⟩,zdc (by omega)⟩;rw [htk,QE,hall];show (true&&(okX x r&&true))=true;unfold okX;rw [Un h4,h5];rfl
  ·have hc:¬ (k:Int)<6:=dF hc;obtain rfl:k=6:=by omega
   exact⟨(),(cvE rfl rfl),hall,fU,hbU⟩
 rintro _ U ⟨hrr,fU,hbU⟩;rw [hrr,Ut] at hright;have hall:∀ r∈zcY x,r.n=x.ev.length/\okR r=true:=fun r hr=>by
  rw [hrels,Qg] at hrr;have:=hrr r hr;unfold okX at this;rw [bAT,dE] at this;exact this
 have hrf:=hall x.rf (by simp);have hrm:=hall x.rm (by simp);have hvU:=hv.below hbU;have dU:Bw U U.drew:=(UW _ _).drew;have hvD:=hvU.below dU;have hbD:=zst hbU dU;refine DrawE.ord [] [0,1,2,3,4,5,6,7,8,9,10,11,12,13,14,15,16] (by kernel_rfl) ⟨zf x.po,zg _,zfb (hdr fU) (i:=0) (by decide),hlt (hdr fU),_,zc (za (hdr fU)) (i:=0) rfl,cmo (zdd hvD.ev (by omega)) ?_⟩;rintro e V ⟨rfl,hbV⟩;refine⟨hbV,?_⟩;have hbV2:=zst hbD hbV;have fV:=zb hbV (hdr fU);have hvV:=hvD.below hbV;refine⟨_,fun w=>znh _ _ x.po (poR x.ev) w,biE (fun h4=>?_) fun h4=>?_⟩
 ·have h4:jt x.po (poR x.ev)=true:=h4;rw [h4,Ut] at hright;refine cmo (znX fV hvV hrf.1 hrf.2 (hT.below hbV2)) ?_;rintro e T ⟨rfl,hbT⟩;refine⟨hbT,?_⟩;have hbT2:=zst hbV2 hbT;refine biE (fun h5=>?_) fun h5=>?_
  ·have h5:zaE x=true:=h5;rw [h5,Ut] at hright;refine cmo (zos (locs:=n) (zb hbT fV) (hvV.below hbT) (by omega) (zoH h3 hnl (by omega)) (hT.below hbT2)) ?_;rintro e R ⟨rfl,hbR⟩;refine⟨hbR,?_⟩;have hbR2:=zst hbT2 hbR;refine biE (fun h6=>?_) fun h6=>?_
   ·have h6:zaG x n=true:=h6;rw [h6,Ut] at hright;refine cmo (zmb (zb hbR (zb hbT fV)) ((hvV.below hbT).below hbR) hrm.1 hrm.2 (hT.below hbR2)) ?_;rintro e Q ⟨rfl,hbQ⟩;exact⟨hbQ,rb hright.symm,(zst hbR2 hbQ)⟩
   ·have h6:zaG x n=false:=h6;rw [h6,Ue] at hright;exact⟨rb hright.symm,hbR2⟩
  ·have h5:zaE x=false:=h5;rw [h5,Ue] at hright;exact brF ⟨rb hright.symm,hbT2⟩
 ·have h4:jt x.po (poR x.ev)=false:=h4;rw [h4,Ue] at hright;exact brF (brF ⟨rb hright.symm,hbV2⟩)
end
theorem zhy {a b:RelD} {f:Nat->Nat} (h:a.n=b.n->okR a=true->okR b=true->∀ i,i<48->f i<2^64):zJ (comb a b f).1.to:=by
 unfold comb
 split
 ·rename_i hc;rw [bAT,bAT,dE] at hc;exact zdS fun i _ hi=>h hc.1 hc.2.1 hc.2.2 i hi
 ·exact fun i _=>(by show 0<2^64;decide)
theorem znC {a b:RelD} (ha:zJ a.to) (hb:zJ b.to):zJ (zaS a b).1.to:=zhy fun _ _ _ i hi=>KV (ha i hi) (hb i hi)
theorem zqp {a b:RelD} (ha:zJ a.to):zJ (za5 a b).1.to:=zhy fun _ _ _ i hi=>KC QT (ha i hi)
theorem zc7 {a b:RelD} (ha:zJ a.to) (hb:zJ b.to):zJ (jk a b).1.to:=zhy fun _ h _ i hi=>by
 unfold zdk;exact zkH hb _ _ (by decide) fun j hj=>(zjd h ha hi j hj).2
theorem zdA (k:Nat) (p:Nat->Bool):zfa (k+1) p=if p k=true then zfa k p|||2^k else zfa k p:=by
 unfold zfa;rw [QR,KQ];rfl
theorem zev (p:Nat->Bool):∀ k,k<=64->zfa k p<2^64
 | 0,_=>by show 0<_;decide
 | k+1,h=>by
  rw [zdA]
  split
  ·exact KV (zev p k (by omega)) (zZ (by omega))
  ·exact zev p k (by omega)
theorem zeE {n:Nat} {p:Nat->Nat->Bool} (hn:n<=64):zJ (zbM n p).to:=zdS fun i _ _=>zev _ n hn
structure RelOk (n:Nat) (r:RelD):Prop where
 n:r.n=n
 ok:okR r=true
 w:zJ r.to
section
variable {n:Nat} {r a b:RelD}
theorem RelOk.le (h:RelOk n r):n<=48:=by
 have:=(jm h.ok).2.1;have:=h.n;omega
theorem RelOk.bit (h:RelOk n r) {i j:Nat} (hi:i<48) (hb:zh r i j=true):i<n/\j<n:=by
 have:=zje h.ok h.w hi hb;have:=h.n;omega
theorem zs9 (hn:r.n=n) (h48:n<=48) (h:∀ i j,i<48->zh r i j=true->i<n/\j<n):okR r=true:=by
 unfold okR;rw [bAT,bAT,dE,dE,Qg];refine⟨by omega,by omega,fun i hi=>?_⟩;have hi:=Uj.1 hi;unfold zbI;rw [bAT,QC,dE,dE,dE];refine⟨?_,?_⟩
 ·rw [zaW,zaI];apply Kb;intro j;rw [QA];by_cases hj:j<64
  ·rw [zaO (zaH _) hj,zbm (by omega) (by omega) hj]
   cases hb:(r.to i).testBit j with
   | false=>rfl
   | true =>
    have:=(h i j hi hb).2;rw [Un (by omega)];rfl
  ·have:=JH (nL (KC (show qP (r.to i) (zav r.n)<=_ from Qu) (show 18446744073709551615-zav r.n<2^64 by omega)) (Kc (show 0<2 by decide) (show 64<=j by omega)));exact this
 ·by_cases hin:i<n
  ·exact .inl (by omega)
  ·refine .inr (Kb fun j=>?_);rw [QA]
   cases hb:(r.to i).testBit j with
   | false=>rfl
   | true=>exact Gj (h i j hi hb).1 hin
theorem RelOk.of (hn:r.n=n) (h48:n<=48) (h:∀ i j,i<48->zh r i j=true->i<n/\j<n) (hw:zJ r.to):RelOk n r:=⟨hn,zs9 hn h48 h,hw⟩
theorem zf8 (p:Nat->Bool):∀ k j,(zfa k p).testBit j=(decide (j<k)&&p j)
 | 0,j=>by
  show (0:Nat).testBit j=_;simp
 | k+1,j=>by
  rw [zdA]
  split
  ·rename_i h;rw [Um,zf8 p k j,j0];by_cases e:j=k
   ·subst e;simp [h]
   ·rw [Uc e,Us];congr 1;exact QB.2 (by omega)
  ·rename_i h;rw [zf8 p k j];by_cases e:j=k
   ·subst e;have:p j=false:=(by simpa using h);rw [this,Ud,Ud]
   ·congr 1;exact QB.2 (by omega)
theorem zcz {f:Nat->Nat} {i j:Nat}:zh (jQ n f) i j=(decide (i<n)&&(f i).testBit j):=by
 unfold zh jQ;dsimp only
 split
 ·rename_i h;rw [Un h];rfl
 ·rename_i h;rw [Uc h,QA];rfl
theorem zbj {p:Nat->Nat->Bool} {i j:Nat}:zh (zbM n p) i j=(decide (i<n)&&(decide (j<n)&&p i j)):=by
 unfold zbM;rw [zcz,zf8]
theorem RelOk.pick (h:n<=48) (p:Nat->Nat->Bool):RelOk n (zbM n p):=by
 refine .of rfl h (fun i j _ hb=>?_) (zeE (by omega));rw [zbj] at hb;simp only [bAT,dE] at hb;exact⟨hb.1,hb.2.1⟩
theorem zjs {f:Nat->Nat} (ha:RelOk n a) (hb:RelOk n b):comb a b f=(jQ n f,0):=by
 unfold comb;have e:a.n.toNat=n:=by have:=ha.n;omega
 rw [Un (ha.n.trans hb.n.symm),ha.ok,hb.ok,Gi (show (true&&(true&&true))=true from rfl),e]
theorem RelOk.comb {f:Nat->Nat} (ha:RelOk n a) (hb:RelOk n b) (hf:∀ i j,i<n->(f i).testBit j=true->j<n):RelOk n (comb a b f).1:=by
 rw [zjs ha hb];have h48:=ha.le;have hbit:∀ i j,zh (jQ n f) i j=true->i<n/\j<n:=fun i j h=>by
  rw [zcz,bAT,dE] at h;exact⟨h.1,hf i j h.1 h.2⟩
 refine .of rfl h48 (fun i j _ h=>hbit i j h) fun i hi=>?_;apply Qw;intro hge;obtain⟨j,hj1,hj2⟩:=Ja hge;have:=(hbit i j hj2).2;omega
theorem znD (ha:RelOk n a) (hb:RelOk n b) {i j:Nat} (hi:i<n):zh (zaS a b).1 i j=(zh a i j||zh b i j):=by
 unfold zaS;rw [zjs ha hb];show zh (jQ n _) i j=_;rw [zcz,Un hi,Um];rfl
theorem RelOk.union (ha:RelOk n a) (hb:RelOk n b):RelOk n (zaS a b).1:=ha.comb hb fun i j hi h=>by
 rw [Um,QC] at h;have h48:=ha.le;rcases h with h | h
 ·exact (ha.bit (by omega) h).2
 ·exact (hb.bit (by omega) h).2
theorem zbf (ha:RelOk n a) {i j:Nat} (hi:i<64):zh (zV a) i j=(decide (j<n)&&zh a j i):=by
 unfold zh;rw [zlc ha.ok];have e1:decide ((j:Int)<a.n)=decide (j<n):=QB.2 (by have:=ha.n;omega);have e2:decide (i∈els (a.to j))=(a.to j).testBit i:=by
  cases h:(a.to j).testBit i with
  | true=>exact Un (qM.2 ⟨hi,h⟩)
  | false=>exact Uc fun hm=>by rw [(qM.1 hm).2] at h;cases h
 rw [e1,e2]
theorem RelOk.back (ha:RelOk n a):RelOk n (zV a):=by
 have h48:=ha.le;have hbit:∀ i j,i<48->zh (zV a) i j=true->i<n/\j<n:=fun i j hi h=>by
  rw [zbf ha (by omega),bAT,dE] at h;exact⟨(ha.bit (by omega) h.2).2,h.1⟩
 refine .of ?_ h48 hbit fun i hi=>?_
 ·unfold zV;rw [Gi ha.ok];exact ha.n
 ·apply Qw;intro hge;obtain⟨j,hj1,hj2⟩:=Ja hge;have:=(hbit i j hi hj2).2;omega
theorem zfn {tq:Nat->Nat} {j:Nat}:∀ (l:List Nat) (t:Nat),(l.foldl (fun t a=>t|||tq a) t).testBit j=(t.testBit j||l.any fun a=>(tq a).testBit j)
 | [],t=>by simp
 | a::l,t=>by rw [QH,zfn l,Um,Uw,Bool.or_assoc]
theorem zjS (ha:RelOk n a) (hb:RelOk n b) {i j:Nat} (hi:i<n):zh (jk a b).1 i j=true↔∃ k,k<n/\zh a i k=true/\zh b k j=true:=by
 unfold jk;rw [zjs ha hb];show zh (jQ n _) i j=true↔_;have h48:=ha.le;rw [zcz,Un hi,Ut];unfold zdk;rw [zfn,QA,Uq,Qh];constructor
 ·rintro⟨k,hk,h⟩;exact⟨k,(ha.bit (by omega) (qM.1 hk).2).2,(qM.1 hk).2,h⟩
 ·rintro⟨k,hk,h1,h2⟩;exact⟨k,qM.2 ⟨by omega,h1⟩,h2⟩
theorem RelOk.then (ha:RelOk n a) (hb:RelOk n b):RelOk n (jk a b).1:=ha.comb hb fun i j hi h=>by
 have h48:=ha.le;unfold zdk at h;rw [zfn,QA,Uq,Qh] at h;obtain⟨k,hk,h⟩:=h;have:=(ha.bit (by omega) (qM.1 hk).2).2;exact (hb.bit (by omega) h).2
def zqH (before:Nat->Nat) (left:Nat):Prop:=∀ S,S≠0->S&&&left=S->∃ i∈els S,before i&&&S=0
theorem zmw {before:Nat->Nat}:∀ (m left:Nat) (l:List Nat),left<2^64->(els left).length<=m->((ziP before m left l).isSome=true↔zqH before left)
 | 0,left,l,h64,hm=>by
  have h0:left=0:=zcQ h64 (by rw [Qo];exact List.length_eq_zero_iff.1 (by omega));subst h0;exact⟨fun _ S hS he=>Gj he.symm (by rw [Nat.and_zero];exact hS),fun _=>rfl⟩
 | m+1,left,l,h64,hm=>by
  by_cases h0:left=0
  ·subst h0;have e:ziP before (m+1) 0 l=some l:=Gi rfl;rw [e];exact⟨fun _ S hS he=>Gj he.symm (by rw [Nat.and_zero];exact hS),fun _=>rfl⟩
  have e:ziP before (m+1) left l=match zb5 before left with | none=>none | some a=>ziP before m (jE left (2^a)) (l++[a]):=Gh h0
  rw [e]
  cases hf:zb5 before left with
  | none =>
   refine⟨fun h=>(by cases h),fun h=>?_⟩;obtain⟨i,hi,hb⟩:=h left h0 (Nat.and_self _);unfold zb5 at hf;rw [List.find?_eq_none] at hf;exact Gj (Un hb) (hf i hi)
  | some k =>
   have hk:=zkJ hf;have hk2:before k&&&left=0:=by
    unfold zb5 at hf;have:=List.find?_some hf;exact dT this
   have hk64:=zma hk;have hlen:=zaq h64 hk;have hsub:∀ S,S&&&qP left (2^k)=S->S&&&left=S:=fun S h=>by
    rw [<- h];unfold qP;apply Kb;intro j;simp only [QX]
    cases S.testBit j <;> cases left.testBit j <;> simp
   dsimp only;rw [zaW,zmw m (qP left (2^k)) (l++[k]) (zag h64) (by omega)];constructor
   ·intro h S hS he;by_cases hm2:k∈els S
    ·refine⟨k,hm2,?_⟩;rw [<- he,Nat.and_comm S left,<- Nat.and_assoc,hk2,Nat.zero_and]
    ·refine h S hS (Kb fun j=>?_);rw [QX]
     cases hb:S.testBit j with
     | false=>rfl
     | true =>
      have hl:left.testBit j=true:=by
       have h2:=hb;rw [<- he,QX,bAT] at h2;exact h2.2
      have hj:j<64:=by
       apply Qw;intro hj;have:=JH (nL h64 (Kc (by decide) hj));rw [this] at hl;cases hl
      have hjk:¬ j=k:=fun e=>hm2 (qM.2 ⟨hk64,by rw [<- e];exact hb⟩);rw [zaO (zZ hk64) hj,hl,j0,Uc hjk];rfl
   ·exact fun h S hS he=>h S hS (hsub S he)
theorem zgm (ha:RelOk n a):zaw a=true↔zqH (zV a).to (zav n):=by
 have h48:=ha.le;unfold zaw zer;rw [Gi ha.ok,zaI,ha.n];refine zmw 64 _ _ (zaH _) ?_;unfold els;have:=JL (fun i=>(zav n).testBit i) (List.range 64);rw [KS] at this;exact this
theorem zlf (ha:RelOk n a) (hb:RelOk n b) (hs:∀ i j,i<n->j<n->zh b i j=true->zh a i j=true) (h:zaw a=true):zaw b=true:=by
 have h48:=ha.le;rw [zgm ha] at h;rw [zgm hb];intro S hS he;obtain⟨i,hi,h0⟩:=h S hS he;refine⟨i,hi,Kb fun j=>?_⟩;have h1:=Gd (fun s=>s.testBit j) h0;simp only [QX,QA] at h1 ⊢
 cases hj:S.testBit j with
 | false=>rw [Ud]
 | true =>
  rw [hj,Bool.and_true] at h1;rw [Bool.and_true];have hi64:=zma hi;have e1:=zbf ha (i:=i) (j:=j) hi64;have e2:=zbf hb (i:=i) (j:=j) hi64;unfold zh at e1 e2 hs;rw [e1] at h1;rw [e2];by_cases hjn:j<n
  ·rw [Un hjn,Ut] at h1 ⊢
   cases hbj:(b.to j).testBit i with
   | false=>rfl
   | true =>
    have hin:=(hb.bit (i:=j) (j:=i) (by omega) hbj).2;rw [hs j i hjn hin hbj] at h1;cases h1
  ·rw [Uc hjn];rfl
end
structure WX (x:ExD):Prop where
 po:zJ x.po.to
 rf:zJ x.rf.to
 co:zJ x.co.to
 dt:zJ x.dt.to
 ct:zJ x.ct.to
 rm:zJ x.rm.to
structure XOk (x:ExD):Prop where
 n:x.ev.length<=48
 po:RelOk x.ev.length x.po
 rf:RelOk x.ev.length x.rf
 co:RelOk x.ev.length x.co
 dt:RelOk x.ev.length x.dt
 ct:RelOk x.ev.length x.ct
 rm:RelOk x.ev.length x.rm
 ev:jr x.ev (qG x.ev)=true
 poE:jt x.po (poR x.ev)=true
 rfR:zaE x=true
 coR:zaG x (qG x.ev)=true
 dep:zaA x=true
section
variable {x:ExD}
theorem zoG (hw:WX x) (h:jb x=true):XOk x:=by
 unfold jb zaM at h;simp only [Uv,List.all_nil,Bool.and_true,bAT,dE] at h;obtain⟨h1,_,_,h4,⟨h5,h6,h7,h8,h9,h10⟩,h11,h12,h13,h14⟩:=h;exact⟨h1,⟨h5.1,h5.2,hw.po⟩,⟨h6.1,h6.2,hw.rf⟩,⟨h7.1,h7.2,hw.co⟩,⟨h8.1,h8.2,hw.dt⟩,⟨h9.1,h9.2,hw.ct⟩,⟨h10.1,h10.2,hw.rm⟩,h4,h11,h12,h13,h14⟩
theorem zkU {W:Nat} {e:Ev} {es:List Ev} {i h:Nat} (hd:zbl x W i (e::es) h=true):(¬ (x.dt.to i|||x.ct.to i|||x.rm.to i=0)->e.k=1)/\∃ h',zbl x W (i+1) es h'=true:=by
 unfold zbl at hd;dsimp only at hd
 split at hd
 ·rename_i h0;exact⟨fun hn=>(hn h0).elim,h,hd⟩
 ·split at hd
  ·rename_i hc;refine⟨fun _=>hc.1,?_⟩
   split at hd
   ·exact⟨h,hd⟩
   ·split at hd
    ·exact⟨_,hd⟩
    ·cases hd
  ·cases hd
theorem zkT {W:Nat}:∀ (es:List Ev) (i h:Nat),zbl x W i es h=true->∀ k,k<es.length->¬ (x.dt.to (i+k)|||x.ct.to (i+k)|||x.rm.to (i+k)=0)->(es.getD k ev0).k=1
 | [],_,_,_,k,hk,_=>by simp at hk
 | e::es,i,h,hd,0,_,hne=>(zkU hd).1 hne
 | e::es,i,h,hd,k+1,hk,hne=>by
  obtain⟨h',hd'⟩:=(zkU hd).2;have:=zkT es (i+1) h' hd' k (by simpa using hk) (by rw [show i+1+k=i+(k+1) by omega];exact hne);simpa using this
theorem zrU (h:XOk x) {a b:Nat} (ha:a<x.ev.length) (hb:zh x.dt a b=true\/zh x.ct a b=true\/zh x.rm a b=true):isR x a=true:=by
 refine Un (zkT x.ev 0 0 h.dep a ha fun h0=>?_);rw [UM] at h0;have h1:=Gd (fun s=>s.testBit b) h0;simp only [Um,QA,Bool.or_eq_false_iff] at h1;unfold zh at hb;rw [h1.1.1,h1.1.2,h1.2] at hb;rcases hb with h | h | h <;> cases h
theorem zl1 (h:XOk x):RelOk x.ev.length (frM x):=h.rf.back.then h.co
theorem zbE {n:Nat}:∀ {l:List RelD} {r:RelD},RelOk n r->(∀ o∈l,RelOk n o)->RelOk n (z9 r l)
 | [],_,h,_=>h
 | o::l,r,h,hl=>zbE (l:=l) (r:=(zaS r o).1) (h.union (hl o Kx)) fun y hy=>hl y (JW _ hy)
theorem za7 {n i j:Nat} (hi:i<n):∀ {l:List RelD} {r:RelD},RelOk n r->(∀ o∈l,RelOk n o)->zh (z9 r l) i j=(zh r i j||l.any fun o=>zh o i j)
 | [],_,_,_=>by rw [List.any_nil,Us];rfl
 | o::l,r,h,hl=>by
  have ho:=hl o Kx;have:=za7 (j:=j) hi (l:=l) (r:=(zaS r o).1) (h.union ho) fun y hy=>hl y (JW _ hy);show zh (z9 (zaS r o).1 l) i j=_;rw [this,znD h ho hi,Uw,Bool.or_assoc]
theorem zrH (h:XOk x) {r:RelD} (hr:RelOk x.ev.length r):RelOk x.ev.length (zbU x r):=by
 have e:r.n.toNat=x.ev.length:=by have:=hr.n;omega
 unfold zbU;rw [e];exact .pick h.n _
theorem zrG {r:RelD} {i j:Nat} (hk:zh (zbU x r) i j=true):zh r i j=true:=by
 unfold zbU at hk;rw [zbj] at hk;simp only [bAT] at hk;exact hk.2.2.1
def zjc (m:Nat) (x:ExD):RelD:=z9 (jW m x) [if m=2 then x.rf else zbU x x.rf,x.co,frM x]
theorem zoc {A B C:Bool} {m:Nat}:(if A=true then (if B=true then (if m=1 then 0 else if C=true then 0 else 3) else 2) else 1)=0↔A=true/\B=true/\(m=1\/C=true):=by
 by_cases h:m=1 <;> cases A <;> cases B <;> cases C <;> simp [h]
theorem zhD {m:Nat}:j3 m x=0↔zaw (z9 (zaa x) [x.rf,x.co,frM x])=true/\zbT (za5 x.rm (jk (frM x) x.co).1).1=true/\(m=1\/zaw (zjc m x)=true):=by
 unfold j3 zjc;exact zoc
theorem zq6 (h:XOk x) {m:Nat}:RelOk x.ev.length (if m=2 then x.rf else zbU x x.rf):=by
 split
 ·exact h.rf
 ·exact zrH h h.rf
theorem zcr (h:XOk x) {m:Nat}:∀ o∈[if m=2 then x.rf else zbU x x.rf,x.co,frM x],RelOk x.ev.length o:=by
 simp only [Uy,Qs,Gf,forall_eq_or_imp,forall_eq];exact⟨zq6 h,h.co,zl1 h⟩
theorem zct (h:XOk x) {m:Nat}:RelOk x.ev.length (jW m x) := .pick h.n _
end
section
variable {n:Nat} {a b:RelD} {x:ExD}
theorem zn0 (h:jt a b=true) {i j:Nat} (hi:i<48):zh a i j=zh b i j:=by
 unfold jt at h;rw [bAT,Qg] at h;have:=dT (h.2 i (Uj.2 hi));unfold zh;rw [this]
theorem zrK {r:RelD} (hr:RelOk x.ev.length r) {i j:Nat} (hi:i<x.ev.length) (hj:j<x.ev.length):zh (zbU x r) i j=(zh r i j && !decide ((evA x i).th=(evA x j).th)):=by
 have e:r.n.toNat=x.ev.length:=by have:=hr.n;omega
 unfold zbU;rw [e,zbj,Un hi,Un hj];rfl
theorem zjC {t:Int}:∀ (es:List Ev) (j s k:Nat),(zgI t j es s).testBit k=true↔s.testBit k=true\/∃ m,m<es.length/\k=j+m/\(es.getD m ev0).th=t
 | [],j,s,k=>by
  show s.testBit k=true↔_;simp
 | e::es,j,s,k=>by
  show (zgI t (j+1) es (if e.th=t then s|||2^j else s)).testBit k=true↔_;rw [zjC es];have hs:(if e.th=t then s|||2^j else s).testBit k=true↔s.testBit k=true\/(k=j/\e.th=t):=by
   split
   ·rename_i h;rw [Um,j0,QC,dE];simp [h]
   ·rename_i h;simp [h]
  rw [hs];constructor
  ·rintro ((h | ⟨h1,h2⟩) | ⟨m,h1,h2,h3⟩)
   ·exact .inl h
   ·exact .inr ⟨0,by simp,h1,h2⟩
   ·exact .inr ⟨m+1,by simpa using h1,by omega,by simpa using h3⟩
  ·rintro (h | ⟨m,h1,h2,h3⟩)
   ·exact .inl (.inl h)
   ·cases m with
    | zero=>exact .inl (.inr ⟨h2,h3⟩)
    | succ m=>exact .inr ⟨m,by simpa using h1,by omega,by simpa using h3⟩
theorem zgH (h:XOk x) {i j:Nat} (hi:i<x.ev.length):zh x.po i j=true↔(evA x i).th ≠ -1/\i<j/\j<x.ev.length/\(evA x j).th=(evA x i).th:=by
 have h48:=h.n;rw [zn0 h.poE (by omega)];have hg:x.ev[i]?=some (evA x i):=by
  rw [gE hi];unfold evA;rw [gDe,gE hi];rfl
 show (zbw x.ev i).testBit j=true↔_;unfold zbw;rw [hg];dsimp only;by_cases ht:(evA x i).th = -1
 ·rw [Gi ht];simp [ht]
 ·rw [Gh ht,zjC,QA];have hd:∀ m,(x.ev.drop (i+1)).getD m ev0=evA x (i+1+m):=fun m=>by
   unfold evA;rw [gDe,gDe,Ku]
  constructor
  ·rintro (h | ⟨m,h1,h2,h3⟩)
   ·cases h
   ·rw [hd] at h3;rw [Qq] at h1;subst h2;exact⟨ht,by omega,by omega,h3⟩
  ·rintro⟨_,h1,h2,h3⟩;refine .inr ⟨j-(i+1),by rw [Qq];omega,by omega,?_⟩;rw [hd,show i+1+(j-(i+1))=j by omega];exact h3
theorem zpN {s i j:Nat}:zh (idR n s) i j=(decide (i<n)&&(s.testBit j&&decide (j=i))):=by
 unfold idR;rw [zcz,QX,j0]
theorem RelOk.id (h:n<=48) (s:Nat):RelOk n (idR n s):=by
 have hb:∀ i j,zh (idR n s) i j=true->i<n/\j<n:=fun i j hb=>by
  rw [zpN] at hb;simp only [bAT,dE] at hb;exact⟨hb.1,by omega⟩
 refine .of rfl h (fun i j _=>hb i j) fun i hi=>?_;apply Qw;intro hge;obtain⟨j,hj1,hj2⟩:=Ja hge;have:=(hb i j hj2).2;omega
theorem zfM {key:Nat->Nat} {y:Nat}:∀ r:List Nat,(jg key r y).Perm (y::r)
 | [] => .refl _
 | z::r=>by
  unfold jg
  split
  ·exact ((zfM r).cons z).trans (.swap y z r)
  ·exact .refl _
theorem zit {key:Nat->Nat}:∀ (l acc:List Nat),(l++acc).Nodup->(l.foldl (fun acc x=>jg key acc x) acc).Nodup
 | [],acc,h=>h
 | y::l,acc,h=>zit l _ (by
   have p:(l++jg key acc y).Perm (y::l++acc):=((zfM acc).append_left l).trans List.perm_middle;exact p.nodup_iff.2 h)
theorem zlK (l:Nat):(z5 x l).Nodup:=by
 unfold z5 zc9;refine (List.reverse_perm _).nodup_iff.2 (zit _ _ ?_);rw [QF];exact List.nodup_range.filter _
end
end Go.Proofs.YtkpaomeeknegpaaGreatDoor
namespace Go.Sei
def zdY (f:Nat->Bool) (n:Nat):Nat:=((List.range n).filter f).length
theorem zlY (e:Ev) (es:List Ev):qG (e::es)=if e.th = -1 then qG es+1 else 0:=by
 unfold qG;rw [Kl];by_cases h:e.th = -1
 ·rw [Gi (Un h),Gi h,Qp]
 ·rw [Gh (by simp [h]),Gh h];rfl
section
variable {L:List Ev} {locs:Nat}
theorem zcx (f:Nat->Bool) (n:Nat):zdY f (n+1)=zdY f n+if f n=true then 1 else 0:=by
 unfold zdY;rw [QR,Kt,lap,Qk,List.filter_nil]
 split <;> rfl
theorem zqf {f:Nat->Bool} {n:Nat} (h:∀ k,k<n->f k=false):zdY f n=0:=by
 unfold zdY;rw [List.length_eq_zero_iff,JC];intro k hk;rw [h k (Uj.1 hk)];decide
end
theorem ziw (ev:List Ev) (a k:Nat):(ev.drop a).getD k ev0=ev.getD (a+k) ev0:=by
 rw [gDe,gDe,Ku]
end Go.Sei
namespace Go.Proofs.YtkpaomeeknegpaaGreatDoor
open Go.Vc Go.RowKit Go.Sei
section
variable {n:Nat} {r:RelD} {x:ExD}
theorem zrV {j:Nat} (h:j<64):ctz (2^j)=j:=by
 have h2:(2:Nat)^j<2^64:=Kd (by decide) h;have:=(qM.1 (zgi (Nat.ne_of_gt (Nat.pow_pos (by decide))) h2)).2;rw [j0] at this;exact dT this
theorem zhE {s:Nat} (h:s≠0):∃ j,s.testBit j=true:=by
 refine Jo fun hn=>h (Kb fun j=>?_);rw [QA]
 cases hb:s.testBit j with
 | false=>rfl
 | true=>exact (hn ⟨j,hb⟩).elim
theorem zlH (hrf:RelOk x.ev.length x.rf):zaE x=true↔(∀ a b,a<x.ev.length->b<x.ev.length->zh x.rf a b=true->isW x a=true/\isR x b=true/\(evA x a).l=(evA x b).l/\(evA x a).v=(evA x b).v) /\
  ∀ b,b<x.ev.length->isR x b=true->(∃ j,j<x.ev.length/\zh x.rf j b=true)/\∀ i j,i<x.ev.length->j<x.ev.length->zh x.rf i b=true->zh x.rf j b=true->i=j:=by
 have h48:=hrf.le;have bk:∀ i,i<x.ev.length->∀ j,((zV x.rf).to i).testBit j=(decide (j<x.ev.length)&&zh x.rf j i):=fun i hi j=>zbf hrf (by omega);have w64:∀ i,i<x.ev.length->(zV x.rf).to i<2^64:=fun i hi=>hrf.back.w i (by omega);unfold zaE;rw [Qg];constructor
 ·intro h;have one:∀ b,b<x.ev.length->∀ a,zh x.rf a b=true->a<x.ev.length->(evA x b).k=1/\a=ctz ((zV x.rf).to b)/\(evA x a).k=2/\(evA x a).l=(evA x b).l/\(evA x a).v=(evA x b).v:=fun b hb a hab ha=>by
   have h1:=h b (Uj.2 hb);have hbit:((zV x.rf).to b).testBit a=true:=by rw [bk b hb,hab,Un ha];rfl
   have h0:¬ (zV x.rf).to b=0:=fun e=>by rw [e,QA] at hbit;cases hbit
   unfold zb1 at h1;by_cases hk:(evA x b).k=1
   ·rw [Gi hk,Gh h0] at h1;by_cases hs:(zV x.rf).to b=2^ctz ((zV x.rf).to b)
    ·rw [Gi hs] at h1;have hz:a=ctz ((zV x.rf).to b):=by
      rw [hs,j0] at hbit;exact dT hbit
     rw [<- hz] at h1;simp only [bAT,dE] at h1;exact⟨hk,hz,h1⟩
    ·rw [Gh hs] at h1;cases h1
   ·rw [Gh hk] at h1;exact (h0 (dT h1)).elim
  refine⟨fun a b ha hb hab=>?_,fun b hb hr=>⟨?_,fun i j hi hj h1 h2=>?_⟩⟩
  ·obtain⟨h1,_,h3,h4⟩:=one b hb a hab ha;exact⟨Un h3,Un h1,h4⟩
  ·have h1:=h b (Uj.2 hb);unfold zb1 at h1;rw [Gi (dT hr:(evA x b).k=1)] at h1;by_cases h0:(zV x.rf).to b=0
   ·rw [Gi h0] at h1;cases h1
   ·obtain⟨j,hj⟩:=zhE h0;rw [bk b hb,bAT,dE] at hj;exact⟨j,hj⟩
  ·exact (one b hb i h1 hi).2.1.trans (one b hb j h2 hj).2.1.symm
 ·rintro⟨h1,h2⟩ b hb;have hb:=Uj.1 hb;unfold zb1;by_cases hk:(evA x b).k=1
  ·rw [Gi hk];obtain⟨⟨j,hj,hj1⟩,hu⟩:=h2 b hb (Un hk);have hs:(zV x.rf).to b=2^j:=Kb fun i=>by
    rw [bk b hb,j0];by_cases hij:i=j
    ·rw [hij,hj1,Un hj,Un rfl];rfl
    ·rw [Uc hij]
     cases hi:zh x.rf i b with
     | false=>rw [Ud]
     | true =>
      by_cases hin:i<x.ev.length
      ·exact (hij (hu i j hin hj hi hj1)).elim
      ·rw [Uc hin];rfl
   have hz:ctz ((zV x.rf).to b)=j:=by rw [hs];exact zrV (by omega)
   have h0:¬ (zV x.rf).to b=0:=by rw [hs];exact Nat.ne_of_gt (Nat.pow_pos (by decide))
   rw [Gh h0,hz,Gi hs];obtain⟨a1,_,a3,a4⟩:=h1 j b hj hb hj1;rw [Un (dT a1:(evA x j).k=2),Un a3,Un a4];rfl
  ·rw [Gh hk];refine Un (Kb fun j=>?_);rw [bk b hb,QA];by_cases hj:j<x.ev.length
   ·cases hjb:zh x.rf j b with
    | false=>rw [Ud]
    | true=>exact (hk (dT (h1 j b hj hb hjb).2.1)).elim
   ·rw [Uc hj];rfl
end
section
variable {x : ExD}
theorem zdG {a b : Nat} (ha : a < 2 ^ 64) (hb : b < 2 ^ 64) : jE a b = 0 ↔ ∀ j, a.testBit j = true → b.testBit j = true := by
  rw [zaW]
  constructor
  · intro h j hj
    have hj64 : j < 64 := by
      refine Qw fun hge => ?_
      rw [JH (KD ha (Kc (by decide) hge))] at hj
      cases hj
    have := zaO (a := a) hb hj64
    rw [h, QA, hj, Ut] at this
    cases hc : b.testBit j with
    | true => rfl
    | false => rw [hc] at this; cases this
  · intro h
    refine Kb fun j => ?_
    rw [QA]
    by_cases hj : j < 64
    · rw [zaO (a := a) hb hj]
      cases hc : a.testBit j with
      | false => rfl
      | true => rw [h j hc]; rfl
    · exact JH (KD (KC (show qP a b ≤ a from QT) ha) (Kc (by decide) (by omega)))
theorem zoK (x : ExD) : ∀ k j, ((List.range k).foldl (fun s i => if (evA x i).k = 2 then s ||| 2 ^ i else s) 0).testBit j = (decide (j < k) && isW x j)
  | 0, j => by show (0 : Nat).testBit j = _; simp
  | k + 1, j => by
    rw [QR, KQ, QH, List.foldl_nil]
    unfold isW at *
    split
    · rename_i h
      rw [Um, zoK x k j, j0]
      by_cases e : j = k
      · subst e
        simp [h, isW]
      · rw [Uc e, Us]
        unfold isW
        congr 1
        exact QB.2 (by omega)
    · rename_i h
      rw [zoK x k j]
      unfold isW
      by_cases e : j = k
      · subst e
        rw [Uc h, Ud, Ud]
      · congr 1
        exact QB.2 (by omega)
theorem zlo (x : ExD) (j : Nat) : (zaR x).testBit j = (decide (j < x.ev.length) && isW x j) := zoK x _ j
theorem zsu (h : x.ev.length ≤ 48) : zaR x < 2 ^ 64 := by
  refine Qw fun hge => ?_
  obtain ⟨j, hj1, hj2⟩ := Ja hge
  rw [zlo, Qe, decide_eq_true_eq] at hj2
  omega
structure DepOne (x : ExD) (k : Nat) : Prop where
  w : ∀ j, zh x.dt k j = true ∨ zh x.rm k j = true → isW x j = true
  p : ∀ j, zh x.dt k j = true ∨ zh x.ct k j = true ∨ zh x.rm k j = true → isR x k = true ∧ zh x.po k j = true
  u : ∀ i j, zh x.rm k i = true → zh x.rm k j = true → i = j
  l : ∀ j, zh x.rm k j = true → (evA x j).l = (evA x k).l
theorem zkS (h48 : x.ev.length ≤ 48) (hpo : RelOk x.ev.length x.po) (hdt : RelOk x.ev.length x.dt) (hct : RelOk x.ev.length x.ct) (hrm : RelOk x.ev.length x.rm) : ∀ (m i h : Nat), i + m = x.ev.length →
    (zbl x (zaR x) i (x.ev.drop i) h = true ↔ (∀ k, i ≤ k → k < x.ev.length → DepOne x k) ∧ (∀ k j, i ≤ k → k < x.ev.length → zh x.rm k j = true → h.testBit j = false) ∧ ∀ k k' j, i ≤ k → k < k' → k' < x.ev.length → zh x.rm k j = true → zh x.rm k' j = true → False)
  | 0, i, h, hi => by
    rw [JB (by omega)]
    exact ⟨fun _ => ⟨fun k h1 h2 => by omega, fun k j h1 h2 => by omega, fun k k' j h1 h2 h3 => by omega⟩, fun _ => rfl⟩
  | m + 1, i, h, hi => by
    have hil : i < x.ev.length := by omega
    have hd : x.ev.drop i = evA x i :: x.ev.drop (i + 1) := by
      unfold evA
      rw [Jl, Ju hil, ← JE hil]; rfl
    rw [hd]
    obtain ⟨d, hdd⟩ : ∃ d, d = x.dt.to i := ⟨_, rfl⟩
    obtain ⟨c, hcc⟩ : ∃ c, c = x.ct.to i := ⟨_, rfl⟩
    obtain ⟨r, hrr⟩ : ∃ r, r = x.rm.to i := ⟨_, rfl⟩
    have bd : ∀ j, d.testBit j = zh x.dt i j := fun j => by rw [hdd]; rfl
    have bc : ∀ j, c.testBit j = zh x.ct i j := fun j => by rw [hcc]; rfl
    have br : ∀ j, r.testBit j = zh x.rm i j := fun j => by rw [hrr]; rfl
    have d64 : d < 2 ^ 64 := by rw [hdd]; exact hdt.w i (by omega)
    have c64 : c < 2 ^ 64 := by rw [hcc]; exact hct.w i (by omega)
    have r64 : r < 2 ^ 64 := by rw [hrr]; exact hrm.w i (by omega)
    have hstep : zbl x (zaR x) i (evA x i :: x.ev.drop (i + 1)) h = if d ||| c ||| r = 0 then zbl x (zaR x) (i + 1) (x.ev.drop (i + 1)) h
        else if (evA x i).k = 1 ∧ jE (d ||| r) (zaR x) = 0 ∧ jE (d ||| c ||| r) (x.po.to i) = 0 then
          (if r = 0 then zbl x (zaR x) (i + 1) (x.ev.drop (i + 1)) h
           else if r = 2 ^ ctz r ∧ h.testBit (ctz r) = false ∧ (evA x (ctz r)).l = (evA x i).l then zbl x (zaR x) (i + 1) (x.ev.drop (i + 1)) (h ||| r) else false)
        else false := by rw [hdd, hcc, hrr]; rfl
    rw [hstep]
    have sp : ∀ (P : Nat → Prop), (∀ k, i ≤ k → k < x.ev.length → P k) ↔ P i ∧ ∀ k, i + 1 ≤ k → k < x.ev.length → P k := fun P =>
      ⟨fun h => ⟨h i (UR _) hil, fun k h1 h2 => h k (by omega) h2⟩, fun h k h1 h2 => by
        by_cases hk : k = i
        · rw [hk]; exact h.1
        · exact h.2 k (by omega) h2⟩
    have one : DepOne x i ↔ (d ||| c ||| r = 0 ∨ ((evA x i).k = 1 ∧ jE (d ||| r) (zaR x) = 0 ∧ jE (d ||| c ||| r) (x.po.to i) = 0)) ∧ (∀ a b, r.testBit a = true → r.testBit b = true → a = b) ∧ (∀ j, r.testBit j = true → (evA x j).l = (evA x i).l) := by
      have inl : ∀ j, zh x.dt i j = true ∨ zh x.rm i j = true → j < x.ev.length := fun j hj => by
        rcases hj with hj | hj
        · exact (hdt.bit (by omega) hj).2
        · exact (hrm.bit (by omega) hj).2
      constructor
      · rintro ⟨w, p, u, l⟩
        refine ⟨?_, fun a b ha hb => u a b (by rw [← br]; exact ha) (by rw [← br]; exact hb), fun j hj => l j (by rw [← br]; exact hj)⟩
        by_cases h0 : d ||| c ||| r = 0
        · exact .inl h0
        · obtain ⟨j, hj⟩ := zhE h0
          have hor : ∀ j, (d ||| c ||| r).testBit j = true → zh x.dt i j = true ∨ zh x.ct i j = true ∨ zh x.rm i j = true := fun j hj => by
            rw [Um, Um, bd, bc, br, QC, QC] at hj
            rcases hj with (hj | hj) | hj
            · exact .inl hj
            · exact .inr (.inl hj)
            · exact .inr (.inr hj)
          refine .inr ⟨KZ (p j (hor j hj)).1, (zdG (KV d64 r64) (zsu h48)).2 fun j hj => ?_, (zdG (KV (KV d64 c64) r64) (hpo.w i (by omega))).2 fun j hj => (p j (hor j hj)).2⟩
          rw [Um, bd, br, QC] at hj
          rw [zlo, w j hj, Un (inl j hj)]; rfl
      · rintro ⟨h1, u, l⟩
        have bits : ∀ j, zh x.dt i j = true ∨ zh x.ct i j = true ∨ zh x.rm i j = true → (d ||| c ||| r).testBit j = true := fun j hj => by
          rw [Um, Um, bd, bc, br]
          rcases hj with hj | hj | hj <;> rw [hj] <;> simp
        have nz : ∀ j, zh x.dt i j = true ∨ zh x.ct i j = true ∨ zh x.rm i j = true → (evA x i).k = 1 ∧ jE (d ||| r) (zaR x) = 0 ∧ jE (d ||| c ||| r) (x.po.to i) = 0 := fun j hj => by
          rcases h1 with h1 | h1
          · have := bits j hj
            rw [h1, QA] at this
            cases this
          · exact h1
        refine ⟨fun j hj => ?_, fun j hj => ?_, fun a b ha hb => u a b (by rw [br]; exact ha) (by rw [br]; exact hb), fun j hj => l j (by rw [br]; exact hj)⟩
        · have h2 := (nz j (by rcases hj with hj | hj; exact .inl hj; exact .inr (.inr hj))).2.1
          have h3 := (zdG (KV d64 r64) (zsu h48)).1 h2 j (by
            rw [Um, bd, br]
            rcases hj with hj | hj <;> rw [hj] <;> simp)
          rw [zlo, Qe] at h3
          exact h3.2
        · have h2 := nz j hj
          exact ⟨Un h2.1, (zdG (KV (KV d64 c64) r64) (hpo.w i (by omega))).1 h2.2.2 j (bits j hj)⟩
    have hr0 : d ||| c ||| r = 0 → r = 0 := fun h0 => Kb fun j => by
      have := Gd (fun s => s.testBit j) h0
      simp only [Um, QA, Bool.or_eq_false_iff] at this
      rw [QA]; exact this.2
    have qp : ∀ h2, (∀ k j, i + 1 ≤ k → k < x.ev.length → zh x.rm k j = true → (h2.testBit j = false ↔ h.testBit j = false ∧ r.testBit j = false)) → (∀ j, r.testBit j = true → h.testBit j = false) → DepOne x i →
        ((zbl x (zaR x) (i + 1) (x.ev.drop (i + 1)) h2 = true) ↔ (∀ k, i ≤ k → k < x.ev.length → DepOne x k) ∧ (∀ k j, i ≤ k → k < x.ev.length → zh x.rm k j = true → h.testBit j = false) ∧ ∀ k k' j, i ≤ k → k < k' → k' < x.ev.length → zh x.rm k j = true → zh x.rm k' j = true → False) := fun h2 hh hf hi1 => by
      rw [zkS h48 hpo hdt hct hrm m (i + 1) h2 (by omega), sp (DepOne x)]
      constructor
      · rintro ⟨a1, a2, a3⟩
        refine ⟨⟨hi1, a1⟩, fun k j k1 k2 k3 => ?_, fun k k' j k1 k2 k3 k4 k5 => ?_⟩
        · by_cases hk : k = i
          · subst hk
            exact hf j (by rw [br]; exact k3)
          · exact ((hh k j (by omega) k2 k3).1 (a2 k j (by omega) k2 k3)).1
        · by_cases hk : k = i
          · subst hk
            have := ((hh k' j (by omega) k3 k5).1 (a2 k' j (by omega) k3 k5)).2
            rw [br, k4] at this
            cases this
          · exact a3 k k' j (by omega) k2 k3 k4 k5
      · rintro ⟨a1, a2, a3⟩
        refine ⟨a1.2, fun k j k1 k2 k3 => (hh k j k1 k2 k3).2 ⟨a2 k j (by omega) k2 k3, ?_⟩, fun k k' j k1 k2 k3 k4 k5 => a3 k k' j (by omega) k2 k3 k4 k5⟩
        cases hb : r.testBit j with
        | false => rfl
        | true => exact (a3 i k j (UR _) (by omega) k2 (by rw [← br]; exact hb) k3).elim
    by_cases h0 : d ||| c ||| r = 0
    · rw [Gi h0]
      have r0 := hr0 h0
      refine qp h (fun k j _ _ _ => ?_) (fun j hj => ?_) (one.2 ⟨.inl h0, fun a b ha => ?_, fun j hj => ?_⟩)
      · rw [r0, QA]; simp
      · rw [r0, QA] at hj; cases hj
      · rw [r0, QA] at ha; cases ha
      · rw [r0, QA] at hj; cases hj
    rw [Gh h0]
    by_cases hc2 : (evA x i).k = 1 ∧ jE (d ||| r) (zaR x) = 0 ∧ jE (d ||| c ||| r) (x.po.to i) = 0
    · rw [Gi hc2]
      by_cases r0 : r = 0
      · rw [Gi r0]
        refine qp h (fun k j _ _ _ => ?_) (fun j hj => ?_) (one.2 ⟨.inr hc2, fun a b ha => ?_, fun j hj => ?_⟩)
        · rw [r0, QA]; simp
        · rw [r0, QA] at hj; cases hj
        · rw [r0, QA] at ha; cases ha
        · rw [r0, QA] at hj; cases hj
      · rw [Gh r0]
        by_cases hc3 : r = 2 ^ ctz r ∧ h.testBit (ctz r) = false ∧ (evA x (ctz r)).l = (evA x i).l
        · rw [Gi hc3]
          have bz : ∀ j, r.testBit j = true → j = ctz r := fun j hj => by
            rw [hc3.1, j0] at hj
            exact KZ hj
          refine qp (h ||| r) (fun k j _ _ _ => ?_) (fun j hj => ?_) (one.2 ⟨.inr hc2, fun a b ha hb => (bz a ha).trans (bz b hb).symm, fun j hj => ?_⟩)
          · rw [Um, Bool.or_eq_false_iff]
          · rw [bz j hj]; exact hc3.2.1
          · rw [bz j hj]; exact hc3.2.2
        · rw [Gh hc3]
          refine ⟨fun h => (by cases h), fun hall => ?_⟩
          have ho := one.1 (hall.1 i (UR _) hil)
          obtain ⟨j, hj⟩ := zhE r0
          have hz := (qM.1 (zgi r0 r64)).2
          refine (hc3 ⟨Kb fun a => ?_, hall.2.1 i _ (UR _) hil (by rw [← br]; exact hz), ho.2.2 _ hz⟩).elim
          rw [j0]
          by_cases ha : a = ctz r
          · rw [ha, hz, Un rfl]
          · rw [Uc ha]
            cases hb : r.testBit a with
            | false => rfl
            | true => exact (ha (ho.2.1 a _ hb hz)).elim
    · rw [Gh hc2]
      refine ⟨fun h => (by cases h), fun hall => ?_⟩
      rcases (one.1 (hall.1 i (UR _) hil)).1 with h1 | h1
      · exact (h0 h1).elim
      · exact (hc2 h1).elim
end
def twl (s:List Nat) (i:Nat):List Nat:=s.takeWhile fun y => !decide (y=i)
theorem zc6 (a:Nat) (s:List Nat) (i:Nat):twl (a::s) i=if a=i then [] else a::twl s i:=by
 unfold twl;rw [Kl];by_cases h:a=i
 ·rw [Gi h,Gh (by simp [h])]
 ·rw [Gh h,Gi (by simp [h])]
theorem zf6:∀ {s:List Nat} {i j:Nat},j∈twl s i->j∈s/\j≠i
 | [],i,j,h=>by cases h
 | a::s,i,j,h=>by
  rw [zc6] at h;by_cases ha:a=i
  ·rw [Gi ha] at h;cases h
  ·rw [Gh ha] at h;rcases Uy.1 h with rfl | h
   ·exact⟨Kx,ha⟩
   ·exact⟨JW _ (zf6 h).1,(zf6 h).2⟩
theorem zh2:∀ {s:List Nat} {i j k:Nat},j∈twl s i->k∈twl s j->k∈twl s i
 | [],i,j,k,h,_=>by cases h
 | a::s,i,j,k,h1,h2=>by
  rw [zc6] at h1 h2 ⊢;by_cases ha:a=i
  ·rw [Gi ha] at h1;cases h1
  ·rw [Gh ha] at h1 ⊢;by_cases hb:a=j
   ·rw [Gi hb] at h2;cases h2
   ·rw [Gh hb] at h2;rcases Uy.1 h2 with rfl | h2
    ·exact Kx
    ·rcases Uy.1 h1 with h1 | h1
     ·exact (hb h1.symm).elim
     ·exact JW _ (zh2 h1 h2)
theorem zg9:∀ (l:List Nat) (f:Nat->Nat) (b:Nat),l.Nodup->∀ i j,(zha l f b i).testBit j=if i∈l then (b.testBit j||decide (j∈twl l i)) else (f i).testBit j
 | [],f,b,_,i,j=>by rw [Gh Qs];rfl
 | a::l,f,b,hn,i,j=>by
  have hn2:=QQ.1 hn;show (zha l (upd f a b) (b|||2^a) i).testBit j=_;rw [zg9 l _ _ hn2.2,zc6];by_cases hia:i=a
  ·subst hia;rw [Gh hn2.1,Gi Kx,zQ,Gi rfl];simp
  ·rw [Gh (show ¬ a=i from fun e=>hia e.symm)];by_cases hi:i∈l
   ·rw [Gi hi,Gi (JW _ hi),Um,j0,Bool.or_assoc];congr 1;rw [Bool.eq_iff_iff,QC,dE,dE,dE,Uy]
   ·rw [Gh hi,Gh (fun h=>by rcases Uy.1 h with h | h;exact hia h;exact hi h),qz _ _ hia]
theorem zhf {key:Nat->Nat} {y:Nat}:∀ {r:List Nat},r.Pairwise (fun a b=>key a<=key b)->(jg key r y).Pairwise (fun a b=>key a<=key b)
 | [],_=>List.pairwise_singleton _ _
 | z::r,h=>by
  have h2:=List.pairwise_cons.1 h;unfold jg
  split
  ·rename_i hlt;refine List.pairwise_cons.2 ⟨fun a ha=>?_,zhf h2.2⟩;rcases (zeg r).1 ha with rfl | ha
   ·omega
   ·exact h2.1 a ha
  ·rename_i hlt;refine List.pairwise_cons.2 ⟨fun a ha=>?_,h⟩;rcases Uy.1 ha with rfl | ha
   ·omega
   ·have:=h2.1 a ha;omega
theorem zmx {key:Nat->Nat}:∀ (l acc:List Nat),acc.Pairwise (fun a b=>key a<=key b)->(l.foldl (fun acc x=>jg key acc x) acc).Pairwise (fun a b=>key a<=key b)
 | [],_,h=>h
 | y::l,acc,h=>zmx l _ (zhf h)
theorem ziS (key:Nat->Nat) (l:List Nat):(zcm key l).Pairwise (fun a b=>key a<=key b):=zmx l [] .nil
theorem znJ {key:Nat->Nat} {l:List Nat} {a:Nat}:a∈zcm key l↔a∈l:=by
 have:a∈(zcm key l).reverse↔a∈l:=zh9
 rwa [List.mem_reverse] at this
theorem zfE {key:Nat->Nat}:∀ {s:List Nat},s.Pairwise (fun a b=>key a<=key b)->s.Nodup->(∀ a b,a∈s->b∈s->a≠b->key a≠key b)->s.Pairwise (fun a b=>key a<key b)
 | [],_,_,_ => .nil
 | a::s,h,hn,hi=>by
  have h2:=List.pairwise_cons.1 h;have hn2:=QQ.1 hn;refine List.pairwise_cons.2 ⟨fun b hb=>?_,zfE h2.2 hn2.2 fun c d hc hd=>hi c d (JW _ hc) (JW _ hd)⟩;have h3:=h2.1 b hb;have h4:=hi a b Kx (JW _ hb) (fun e=>hn2.1 (by rw [e];exact hb));omega
theorem znm {f g:Nat->Bool}:∀ {n:Nat},(∀ i,i<n->f i=true->g i=true->False)->zdY f n+zdY g n=zdY (fun i=>f i||g i) n
 | 0,_=>rfl
 | n+1,h=>by
  have ih:=znm (f:=f) (g:=g) (n:=n) fun i hi=>h i (by omega);have:=h n (Qx _);rw [zcx,zcx,zcx,<- ih]
  cases hf:f n <;> cases hg:g n <;> simp [hf,hg] at this ⊢ <;> omega
theorem zqg {a:Nat}:∀ {n:Nat},a<n->zdY (fun b=>decide (b=a)) n=1
 | 0,h=>Gj h (QW _)
 | n+1,h=>by
  rw [zcx];by_cases e:n=a
  ·subst e;rw [Gi (Un rfl),zqf fun k hk=>Uc (by omega)]
  ·rw [Gh (by simp [e]),zqg (by omega)]
theorem zk3 {f g:Nat->Bool}:∀ {n:Nat},(∀ i,i<n->f i=true->g i=true)->zdY f n<=zdY g n
 | 0,_=>UR _
 | n+1,h=>by
  have ih:=zk3 (f:=f) (g:=g) (n:=n) fun i hi=>h i (by omega);have:=h n (Qx _);rw [zcx,zcx]
  cases hf:f n <;> cases hg:g n <;> simp [hf,hg] at this ⊢ <;> omega
theorem zhz {f g:Nat->Bool} {n j:Nat} (h:∀ i,i<n->f i=true->g i=true) (hj:j<n) (h1:f j=false) (h2:g j=true):zdY f n<zdY g n:=by
 have e:=znm (f:=f) (g:=fun b=>decide (b=j)) (n:=n) fun i hi hf hd=>by
  have:i=j:=dT hd;rw [this,h1] at hf;cases hf
 rw [zqg hj] at e;have:=zk3 (f:=fun i=>f i||decide (i=j)) (g:=g) (n:=n) fun i hi hor=>by
  rw [QC,dE] at hor;rcases hor with h3 | h3
  ·exact h i hi h3
  ·rw [h3];exact h2
 omega
theorem zkA (s:Nat):zbO s=zdY (fun j=>s.testBit j) 64:=rfl
section
variable {x:ExD}
abbrev sG (x:ExD) (l:Nat):List Nat:=zcm (zbP x) (qc x l)
theorem zpb (l:Nat):(sG x l).Nodup:=by
 have:=zlK (x:=x) l;exact (List.reverse_perm _).nodup_iff.1 this
theorem zpk (l:Nat):z5 x l=(sG x l).reverse:=rfl
theorem zeL {l a:Nat}:a∈qc x l↔a<x.ev.length/\isW x a=true/\(evA x a).l.toNat=l:=by
 unfold qc isW;rw [QN,Uj,bAT,dE,dE]
def zpi (x:ExD):Nat->Nat->RelD×(Nat->UInt8)->RelD×(Nat->UInt8)
 | 0,_,p=>p
 | m+1,l,p=>zpi x m (l+1) (zas (z5 x l) p.1,upd p.2 l (zd1 x.ev (z5 x l)))
theorem zk1:∀ (m l:Nat) (p q:RelD×(Nat->UInt8)),zhW x m l p=some q↔(∀ k,l<=k->k<l+m->(z5 x k).headD 48=k)/\q=zpi x m l p
 | 0,l,p,q=>⟨fun h=>⟨fun k h1 h2=>by omega,(Ua h).symm⟩,fun h=>by rw [h.2];rfl⟩
 | m+1,l,p,q=>by
  unfold zhW;by_cases hd:(z5 x l).headD 48=l
  ·rw [Gi hd,zk1 m (l+1)];refine⟨fun h=>⟨fun k h1 h2=>?_,h.2⟩,fun h=>⟨fun k h1 h2=>h.1 k (by omega) (by omega),h.2⟩⟩;by_cases hk:k=l
   ·rw [hk];exact hd
   ·exact h.1 k (by omega) (by omega)
  ·rw [Gh hd];exact⟨fun h=>(by cases h),fun h=>(hd (h.1 l (UR _) (by omega))).elim⟩
end
inductive TC (R:Nat->Nat->Prop):Nat->Nat->Prop
 | one {a b:Nat} (h:R a b):TC R a b
 | step {a b c:Nat} (h:TC R a b) (k:R b c):TC R a c
theorem TC.first {R:Nat->Nat->Prop} {a b c:Nat} (h:R a b) (k:TC R b c):TC R a c:=by
 induction k with
 | one k=>exact .step (.one h) k
 | step _ k2 ih=>exact .step ih k2
theorem TC.trans {R:Nat->Nat->Prop} {a b c:Nat} (h:TC R a b) (k:TC R b c):TC R a c:=by
 induction k with
 | one k=>exact .step h k
 | step _ k2 ih=>exact .step ih k2
section
variable {n:Nat} {a:RelD}
def zfc (n:Nat) (r:RelD) (i j:Nat):Prop:=i<n/\zh r i j=true
theorem zmH (h:RelOk n a):∀ i j,zfc n a i j->i<n/\j<n:=fun i j hij=>⟨hij.1,(h.bit (by have:=h.le;have:=hij.1;omega) hij.2).2⟩
open Classical in
theorem acy_tc (h:RelOk n a):zaw a=true↔∀ i,¬ TC (zfc n a) i i:=by
 have h48:=h.le;rw [zgm h];have bk:∀ i,i<64->∀ j,((zV a).to i).testBit j=(decide (j<n)&&zh a j i):=fun i hi j=>zbf h hi;have dom:∀ {i j},TC (zfc n a) i j->i<n/\j<n:=fun {i j} ht=>by
  induction ht with
  | one k=>exact zmH h _ _ k
  | step _ k ih=>exact⟨ih.1,(zmH h _ _ k).2⟩
 constructor
 ·intro hf i hi;obtain⟨S,hS⟩:=nm (zfa n fun v=>decide (TC (zfc n a) i v/\TC (zfc n a) v i));have sb:∀ v,S.testBit v=true↔v<n/\TC (zfc n a) i v/\TC (zfc n a) v i:=fun v=>by
   rw [hS,zf8,bAT,dE,dE]
  have hii:=(sb i).2 ⟨(dom hi).1,hi,hi⟩;obtain⟨v,hv,h0⟩:=hf S (fun e=>by rw [e,QA] at hii;cases hii) (Kb fun j=>by
   rw [QX]
   cases hb:S.testBit j with
   | false=>rfl
   | true =>
    have:=((sb j).1 hb).1;rw [zbm (by omega) (by omega) (by omega)];rw [Ut];exact Un (by omega))
  have hv2:=qM.1 hv;obtain⟨hvn,t1,t2⟩:=(sb v).1 hv2.2;have no:∀ u,zfc n a u v->S.testBit u=true->False:=fun u hu hS2=>by
   have:=Gd (fun s=>s.testBit u) h0;simp only [QX,QA] at this;rw [hS2,bk v hv2.1,Un hu.1,hu.2] at this
   cases this
  cases t1 with
  | one k=>exact no i k hii
  | step t k =>
   rename_i u;exact no u k ((sb u).2 ⟨k.1,t,.first k t2⟩)
 ·intro hno S hS he;refine Jo fun hn=>?_;have every:∀ v,v∈els S->∃ u,u∈els S/\zfc n a u v:=fun v hv=>by
   have h1:¬ (zV a).to v&&&S=0:=fun e=>hn ⟨v,hv,e⟩;obtain⟨u,hu⟩:=zhE h1;rw [QX,bAT,bk v (qM.1 hv).1,bAT,dE] at hu;exact⟨u,qM.2 ⟨by omega,hu.2⟩,hu.1.1,hu.1.2⟩
  have desc:∀ m v,v∈els S->zdY (fun u=>decide (TC (zfc n a) u v)) n=m->False:=fun m=>by
   induction m using Nat.strongRecOn with
   | _ m ih =>
    intro v hv hm;obtain⟨u,hu,huv⟩:=every v hv;refine ih (zdY (fun w=>decide (TC (zfc n a) w u)) n) ?_ u hu rfl;rw [<- hm];exact zhz (j:=u) (fun w _ hw=>Un (.step (dT hw) huv)) huv.1 (Uc (hno u)) (Un (.one huv))
  obtain⟨v,hv⟩:=zhE hS;have hv64:v<64:=by
   have h2:=hv;rw [<- he,QX,bAT] at h2;refine Qw fun hge=>?_;rw [JH (nL (zaH n) (Kc (by decide) hge))] at h2
   cases h2.2
  exact desc _ v (qM.2 ⟨hv64,hv⟩) rfl
end
section
variable {x:ExD}
def zuY (x:ExD) (i j:Nat):Prop:=(i<x.ev.length/\j<x.ev.length)/\(zh x.rf i j=true\/zh x.co i j=true\/zh (frM x) i j=true)
theorem zkn (h:XOk x):RelOk x.ev.length (zjc 2 x):=zbE (zct h) (zcr h)
theorem zko (h:XOk x) {i j:Nat} (hi:i<x.ev.length):zh (zjc 2 x) i j=true↔(zh x.po i j=true/\zaj x i=true/\zaj x j=true)\/zuY x i j:=by
 have hb:zh (zjc 2 x) i j=(zh (jW 2 x) i j||[x.rf,x.co,frM x].any fun o=>zh o i j):=za7 hi (zct h) (zcr h);have jlt:∀ {r:RelD},RelOk x.ev.length r->zh r i j=true->j<x.ev.length:=fun {r} hr hb=>(hr.bit (by have:=h.n;omega) hb).2;rw [hb,QC];constructor
 ·rintro (hk | hk)
  ·unfold jW at hk;rw [zbj] at hk;simp only [bAT,dE] at hk;exact .inl ⟨hk.2.2.1,hk.2.2.2.1,hk.2.2.2.2.1⟩
  ·simp only [Uw,List.any_nil,Us,QC] at hk;refine .inr ⟨⟨hi,?_⟩,hk⟩;rcases hk with hk | hk | hk
   ·exact jlt h.rf hk
   ·exact jlt h.co hk
   ·exact jlt (zl1 h) hk
 ·rintro (⟨h1,h2,h3⟩ | ⟨⟨_,hj⟩,hk⟩)
  ·left;unfold jW;rw [zbj,h1,h2,h3,Un hi,Un (jlt h.po h1)];rfl
  ·right;simp only [Uw,List.any_nil,Us,QC];exact hk
end
section
variable {n:Nat} {a b:RelD} {x:ExD}
structure KOk (x:ExD):Prop extends XOk x where
 k:∀ i,i<x.ev.length->(evA x i).k=1\/(evA x i).k=2\/(evA x i).k=3
theorem zrA (x:ExD) (md:UInt8) (j:Nat) (h:x.ev.length<=64):(zan x md).testBit j=(decide (j<x.ev.length)&&(decide ((evA x j).k=3)&&decide ((evA x j).m=md))):=by
 have go:∀ (l:List Nat) (s:Nat),(l.foldl (fun s i=>s|||2^i) s).testBit j=(s.testBit j||decide (j∈l)):=fun l=>by
  induction l with
  | nil=>intro s;simp
  | cons a l ih =>
   intro s;rw [QH,ih,Um,j0,Bool.or_assoc];congr 1;rw [Bool.eq_iff_iff,QC,dE,dE,dE,Uy]
 unfold zan;rw [go,QA,Uq,Bool.eq_iff_iff,dE,QN,Uj];simp only [bAT,dE]
end
def zgn (x:ExD):Prop:=∀ a c,a<x.ev.length->zh x.po a c=true->zaj x a=true->zaj x c=true ->
 (∃ f,f<x.ev.length/\(evA x f).k=3/\(evA x f).m=3/\zh x.po a f=true/\zh x.po f c=true)\/(zh x.rm a c=true/\(evA x a).m=3)
section
variable {x:ExD}
theorem zol (h:XOk x) {a c:Nat} (ha:a<x.ev.length) (hf:∃ f,f<x.ev.length/\(evA x f).k=3/\(evA x f).m=3/\zh x.po a f=true/\zh x.po f c=true):zh (zO x 3) a c=true:=by
 obtain⟨f,h1,h2,h3,h4,h5⟩:=hf;have h48:=h.n;have hid:=RelOk.id (n:=x.ev.length) h.n (zan x 3);unfold zO;refine (zjS (h.po.then hid) h.po ha).2 ⟨f,h1,(zjS h.po hid ha).2 ⟨f,h1,h4,?_⟩,h5⟩;rw [zpN,Un h1,zrA x 3 f (by omega),Un h1,Un h2,Un h3,Un rfl];rfl
theorem zof (h:XOk x) (hF:zgn x) {m:Nat} (h3:3<=m) (h6:m<=6) {a c:Nat} (ha:a<x.ev.length) (hp:zh x.po a c=true) (aa:zaj x a=true) (ac:zaj x c=true):zcZ m x (zO x 3) (zO x 4) (zO x 5) a c=true:=by
 have hm:m=3\/m=4\/m=5\/m=6:=by omega
 rcases hF a c ha hp aa ac with hf | ⟨hr,hmd⟩
 ·have hf:=zol h ha hf;rcases hm with rfl | rfl | rfl | rfl <;> (unfold zcZ;simp [zai,hf])
 ·have hrd:isR x a=true:=zrU h ha (.inr (.inr hr));rcases hm with rfl | rfl | rfl | rfl <;> (unfold zcZ;simp [zW,hrd,hr,hmd])
theorem zkC (h:XOk x) (hF:zgn x) {m:Nat} (h3:3<=m) (h6:m<=6) {a c:Nat} (ha:a<x.ev.length) (hp:zh x.po a c=true) (aa:zaj x a=true) (ac:zaj x c=true):zh (jW m x) a c=true:=by
 have hc:c<x.ev.length:=(h.po.bit (by have:=h.n;omega) hp).2;unfold jW;rw [zbj,Un ha,Un hc,hp,aa,ac,zof h hF h3 h6 ha hp aa ac];rfl
theorem zsU (h:XOk x) (hA:zaw (z9 (zaa x) [x.rf,x.co,frM x])=true) {a c:Nat} (ha:a<x.ev.length) (hc:c<x.ev.length) (hb:zh x.rf a c=true) (ht:(evA x a).th=(evA x c).th) (hk:∀ i,i<x.ev.length->isR x i=true->(evA x i).th ≠ -1):zh x.po a c=true:=by
 obtain⟨g1,_⟩:=(zlH h.rf).1 h.rfR;obtain⟨wa,rc,hl,_⟩:=g1 a c ha hc hb;have hne:a≠c:=fun e=>by
  subst e;have h1:(evA x a).k=2:=dT wa;have h2:(evA x a).k=1:=dT rc;rw [h1] at h2;exact Gj h2 (by decide)
 have hth:=hk c hc rc;by_cases hlt:a<c
 ·exact (zgH h ha).2 ⟨by rw [ht];exact hth,hlt,hc,ht.symm⟩
 ·exfalso
  have hpo:zh x.po c a=true:=(zgH h hc).2 ⟨hth,by omega,ha,ht⟩;have hloc:RelOk x.ev.length (zaa x) := .pick h.n _;have hall:∀ o∈[x.rf,x.co,frM x],RelOk x.ev.length o:=fun o ho=>by
   simp only [Uy,Qs,Gf] at ho;rcases ho with rfl | rfl | rfl
   ·exact h.rf
   ·exact h.co
   ·exact zl1 h
  have hU:=zbE hloc hall;rw [acy_tc hU] at hA;have e1:zfc x.ev.length (z9 (zaa x) [x.rf,x.co,frM x]) a c:=⟨ha,by rw [za7 ha hloc hall];simp [hb]⟩;have aa:zaj x a=true:=by unfold zaj;rw [wa,Bool.or_true]
  have ac:zaj x c=true:=by unfold zaj;rw [rc];rfl
  have e2:zfc x.ev.length (z9 (zaa x) [x.rf,x.co,frM x]) c a:=⟨hc,by
   rw [za7 hc hloc hall];have:zh (zaa x) c a=true:=by
    unfold zaa;rw [zbj,Un hc,Un ha,hpo];unfold zbu;rw [aa,ac,Un hl.symm];rfl
   rw [this];rfl⟩
  exact hA a (.step (.one e1) e2)
theorem zkM (h:XOk x) (hF:zgn x) (hk:∀ i,i<x.ev.length->isR x i=true->(evA x i).th ≠ -1) {m:Nat} (h3:3<=m) (h6:m<=6):j3 m x=0↔j3 2 x=0:=by
 rw [zhD,zhD];have hm2:m≠2:=by omega
 have hm1:m≠1:=by omega
 refine⟨fun ⟨h1,h2,h4⟩=>⟨h1,h2,.inr ?_⟩,fun ⟨h1,h2,h4⟩=>⟨h1,h2,.inr ?_⟩⟩
 ·refine zlf (zbE (zct h) (zcr h)) (zkn h) (fun i j hi hj hb=>?_) (h4.resolve_left hm1);show zh (zjc m x) i j=true;have hbit:zh (zjc m x) i j=(zh (jW m x) i j||[if m=2 then x.rf else zbU x x.rf,x.co,frM x].any fun o=>zh o i j):=za7 hi (zct h) (zcr h);rw [hbit,Gh hm2];simp only [Uw,List.any_nil,Us,QC];rcases (zko h hi).1 hb with ⟨g1,g2,g3⟩ | ⟨_,g | g | g⟩
  ·exact .inl (zkC h hF h3 h6 hi g1 g2 g3)
  ·by_cases ht:(evA x i).th=(evA x j).th
   ·have hp:=zsU h h1 hi hj g ht hk;obtain⟨gg,_⟩:=(zlH h.rf).1 h.rfR;obtain⟨wa,rc,_⟩:=gg i j hi hj g;exact .inl (zkC h hF h3 h6 hi hp (by unfold zaj;rw [wa,Bool.or_true]) (by unfold zaj;rw [rc];rfl))
   ·exact .inr (.inl (by rw [zrK h.rf hi hj,g,Uc ht];rfl))
  ·exact .inr (.inr (.inl g))
  ·exact .inr (.inr (.inr g))
 ·have h4:=h4.resolve_left (by decide);refine zlf (zkn h) (zbE (zct h) (zcr h)) (fun i j hi hj hb=>?_) h4;have hb:zh (zjc m x) i j=true:=hb;have hbit:zh (zjc m x) i j=(zh (jW m x) i j||[if m=2 then x.rf else zbU x x.rf,x.co,frM x].any fun o=>zh o i j):=za7 hi (zct h) (zcr h);rw [hbit,Gh hm2] at hb;simp only [Uw,List.any_nil,Us,QC] at hb;rw [zko h hi];rcases hb with g | g | g | g
  ·left;unfold jW at g;rw [zbj] at g;simp only [bAT,dE] at g;exact⟨g.2.2.1,g.2.2.2.1,g.2.2.2.2.1⟩
  ·exact .inr ⟨⟨hi,hj⟩,.inl (zrG g)⟩
  ·exact .inr ⟨⟨hi,hj⟩,.inr (.inl g)⟩
  ·exact .inr ⟨⟨hi,hj⟩,.inr (.inr g)⟩
end
def fct:Nat->Nat
 | 0=>1
 | n+1=>(n+1)*fct n
theorem zdM:∀ n,1<=fct n
 | 0=>UR _
 | n+1=>Nat.mul_pos (Nat.succ_pos n) (zdM n)
theorem zhp {a b:Nat} (h:a<=b):fct a<=fct b:=by
 induction b with
 | zero=>rw [Nat.le_zero.1 h];exact UR _
 | succ b ih =>
  rcases Nat.lt_or_ge b a with h1 | h1
  ·rw [show a=b+1 by omega];exact UR _
  ·refine UI (ih h1) ?_;show fct b<=(b+1)*fct b;exact Nat.le_mul_of_pos_left _ (Nat.succ_pos b)
theorem zdN (s:Nat):(els s).Nodup:=by
 unfold els;exact List.Pairwise.filter _ List.nodup_range
theorem zeR (before:Nat->Nat):∀ (n left:Nat) (l x:List Nat),left<2^64->x∈zao before n left l->∃ s,x=l++s/\s.Perm (els left)/\∀ a t,s=a::t->before a&&&left=0
 | 0,left,l,x,hl,h=>by
  unfold zao at h
  split at h
  ·rename_i h0;rw [Ky] at h;exact⟨[],by rw [h,QF],by rw [h0,zah],fun a t e=>by cases e⟩
  ·cases h
 | n+1,left,l,x,hl,h=>by
  unfold zao at h
  split at h
  ·rename_i h0;rw [Ky] at h;exact⟨[],by rw [h,QF],by rw [h0,zah],fun a t e=>by cases e⟩
  ·obtain⟨a,ha,h⟩:=List.mem_flatMap.1 h
   split at h
   ·rename_i hb;obtain⟨s,hs,hp,_⟩:=zeR before n _ _ x (zag hl) h;rw [zdn hl ha] at hp;refine⟨a::s,by rw [hs,KL];rfl,?_,fun b t e=>by cases e;exact hb⟩;refine (List.Perm.cons a hp).trans ?_;have hn:=zdN left;generalize els left=L at ha hn;clear hp hs h hl
    induction L with
    | nil=>cases ha
    | cons y r ih =>
     have hn2:=QQ.1 hn;rcases Uy.1 ha with e | e
     ·subst e;rw [Qk,Gh (by simp),List.filter_eq_self.2 fun z hz=>by
       have:z≠a:=fun e=>hn2.1 (by rw [<- e];exact hz);simp [this]]
     ·have hya:y≠a:=fun e2=>hn2.1 (by rw [e2];exact e);rw [Qk,Gi (by simp [hya])];exact (List.Perm.swap y a _).trans (List.Perm.cons y (ih e hn2.2))
   ·cases h
theorem zm6 {α β:Type} {f:α->List β} {b:Nat}:∀ {l:List α},(∀ a∈l,(f a).length<=b)->(l.flatMap f).length<=l.length*b
 | [],_=>by simp
 | a::l,h=>by
  rw [KO,lap,Qp,Nat.succ_mul];have:=h a Kx;have:=zm6 (l:=l) fun x hx=>h x (JW _ hx);omega
theorem ziz (before:Nat->Nat):∀ (n left:Nat) (l:List Nat),left<2^64->(zao before n left l).length<=fct (els left).length
 | 0,left,l,hl=>by
  unfold zao
  split
  ·exact zdM _
  ·exact UU _
 | n+1,left,l,hl=>by
  unfold zao
  split
  ·exact zdM _
  ·have hne:(els left).length=0\/∃ m,(els left).length=m+1:=by
    cases (els left).length with
    | zero=>exact .inl rfl
    | succ m=>exact .inr ⟨m,rfl⟩
   rcases hne with h0 | ⟨m,hm⟩
   ·rw [List.length_eq_zero_iff.1 h0];exact UU _
   ·rw [hm];refine UI (zm6 (b:=fct m) fun a ha=>?_) (by rw [hm];exact UR _)
    split
    ·refine UI (ziz before n _ _ (zag hl)) (zhp ?_);have:=zaq hl ha;rw [zaW];omega
    ·exact UU _
theorem zcw {f:Nat->List (List Nat)}:∀ {l:List Nat},l.Nodup->(∀ a∈l,a≠0->f a=[])->(l.flatMap f).length<=(f 0).length
 | [],_,_=>UU _
 | a::l,hn,h=>by
  have hn2:=QQ.1 hn;rw [KO,lap];by_cases e:a=0
  ·subst e;have:l.flatMap f=[]:=List.flatMap_eq_nil_iff.2 fun x hx=>h x (JW _ hx) fun e=>hn2.1 (by rw [<- e];exact hx);rw [this];exact UR _
  ·rw [h a Kx e];have:=zcw hn2.2 fun x hx=>h x (JW _ hx);simpa using this
section
variable {n:Nat}
theorem zjq (hn:n<=48):RelOk n (crs n):=⟨rfl,zqc n hn,fun i hi=>znj n i hi⟩
theorem zkX (hn:n<=48) {a:Nat} (ha:a<n) (h0:a≠0):((zV (crs n)).to a).testBit 0=true:=by
 have h:=zbf (zjq hn) (i:=a) (j:=0) (by omega);unfold zh at h;rw [h,Un (by omega),Ut];show (if 0<n then (if Nat.testBit 1 0 then jE (j7 n) 1&&&j7 n else 0) else 0).testBit a=true;rw [Gi (by omega),Gi (by decide),QX];have hb:(j7 n).testBit a=true:=by
  rw [zaI,zbm (by omega) (by omega) (by omega)];exact Un (by omega)
 rw [hb,Bool.and_true,zaW];have:qP (j7 n) 1=qP (j7 n) (2^0):=rfl;rw [this,zaO (by decide) (by omega),hb,Km];simp;omega
theorem zgP (h1:1<=n) (hn:n<=48) {o:List Nat} (h:o∈zbq (crs n)):o.Perm (List.range n)/\∃ t,o=0::t:=by
 unfold zbq at h
 split at h
 ·obtain⟨s,hs,hp,hf⟩:=zeR _ _ _ _ _ (zdU n) h;rw [QO] at hs;subst hs;have e:els (j7 ((n:Nat):Int))=List.range n:=by rw [zaI];exact zdO (by omega)
  have hp:o.Perm (List.range n):=by rw [<- e];exact hp
  refine⟨hp,?_⟩
  cases o with
  | nil=>have:=hp.length_eq;simp at this;omega
  | cons a t =>
   by_cases h0:a=0
   ·exact⟨t,by rw [h0]⟩
   ·have ha:a<n:=Uj.1 (hp.subset Kx);have h2:=hf a t rfl;have h3:=zkX hn ha h0;have h4:(j7 ((n:Nat):Int)).testBit 0=true:=by
     rw [zaI,zbm (by omega) (by omega) (by omega)];exact Un (by omega)
    have h5:((zV (crs n)).to a&&&j7 ((n:Nat):Int)).testBit 0=true:=(by rw [QX,h3,h4];rfl);have h6:((zV (crs n)).to a&&&j7 ((n:Nat):Int))=0:=h2;rw [h6] at h5;simp at h5
 ·cases h
theorem zii (h1:1<=n) (hn:n<=48):(zbq (crs n)).length<=fct (n-1):=by
 unfold zbq
 split
 ·have e:els (j7 ((n:Nat):Int))=List.range n:=by rw [zaI];exact zdO (by omega)
  have e0:(0:Nat)∈els (j7 ((n:Nat):Int)):=by rw [e];exact Uj.2 (by omega)
  show (zao (zV (crs n)).to 64 (j7 ((n:Nat):Int)) []).length<=_;unfold zao
  split
  ·exact zdM _
  ·refine UI (zcw (zdN _) fun a ha h0=>?_) ?_
   ·have ha:a<n:=(by rw [e] at ha;exact Uj.1 ha);refine Gh fun h2=>?_;have h3:=zkX hn ha h0;have h4:(j7 ((n:Nat):Int)).testBit 0=true:=by
     rw [zaI,zbm (by omega) (by omega) (by omega)];exact Un (by omega)
    have h5:((zV (crs n)).to a&&&j7 ((n:Nat):Int)).testBit 0=true:=(by rw [QX,h3,h4];rfl);rw [h2] at h5;simp at h5
   ·split
    ·refine UI (ziz _ _ _ _ (zag (zdU n))) (zhp ?_);have h6:=zaq (zdU n) e0;rw [e,KS] at h6;rw [zaW];omega
    ·exact UU _
 ·exact UU _
end
theorem zoe (w:List Nat):(List.range w.length).map (fun k=>w.getD k 0)=w:=by
 apply KM;intro i;rw [KR];by_cases h:i<w.length
 ·rw [Kf h,gE h];show some (w.getD i 0)=_;rw [gDe,gE h];rfl
 ·rw [JJ (by simpa using h),JJ (by simpa using h)];rfl
theorem zic {w rk:List Nat} (h1:1<=w.length) (hn:w.length<=48) (h:rk∈zM w):rk.Perm w/\rk.headD 48=w.headD 48:=by
 unfold zM at h;dsimp only at h
 split at h
 ·obtain⟨o,ho,rfl⟩:=UF.1 h;obtain⟨hp,t,ht⟩:=zgP h1 hn ho;refine⟨?_,?_⟩
  ·have:=hp.map fun k=>w.getD k 0;rw [zoe] at this;exact this
  ·rw [ht];show w.getD 0 0=_
   cases w with
   | nil=>simp at h1
   | cons a r=>rfl
 ·cases h
theorem zgE {w:List Nat} (h1:1<=w.length) (hn:w.length<=48):(zM w).length<=fct (w.length-1)/\(zM w).length<=10000:=by
 unfold zM;dsimp only
 split
 ·rename_i h;rw [QI];exact⟨zii h1 hn,h⟩
 ·exact⟨UU _,UU _⟩
theorem zsa {b o:Nat} {w:Wd}:Calls PG 33 #[.pointer (some ⟨b,o,none⟩)] w fun e w'=>e = .returned (.func (.func 77) #[] #[At0 w.heap.size])/\w'.heap[w.heap.size]?=some (.cells #[.pointer (some ⟨b,o,none⟩)] 141 (0,0))/\w'.heap.size=w.heap.size+1/\Bw w w':=by
 refine zF 4 [.pointer (some ⟨b,o,none⟩)] Tryz.func33 ?_;exact⟨rfl,zy w _,wz _ _,(zba w _)⟩
def zsn (B:Nat) (F:Nat->Prop) (Y:Wd) (x:zbV):Prop:=OwnS evE 49 B Y x.2.1 x.2.2 x.1.ev/\∀ a,x.2.1=some a->F a.block
theorem zfk (B:Nat):ziI 46 30 (zsn B):=by
 rintro F G Y Z x ⟨h1,h2⟩ hs hg;refine⟨h1.same fun a ha=>?_,fun a ha=>hg _ (h2 a ha)⟩;obtain⟨_,_,cur,hc⟩:=zx h1 ha;exact hs _ cur _ (h2 a ha) hc (by decide) (by decide)
theorem zlm {B B1 bx c0:Nat} {p0:OA} {l0:List zbV} {xs:List ExD} {w W0:Wd} {Rd:Nat->Prop} {pm:Value} (ho:OwnS exE 46 B w p0 c0 l0) (hn:∀ x∈l0,OwnS evE 49 B w x.2.1 x.2.2 x.1.ev) (hB:B<=w.heap.size)
  (hI:zqF PG 77 [At0 bx] xs W0 Rd (StX B1) GvX) (hW0:W0.heap.size<=w.heap.size) (hRd:∀ k,Rd k->k<W0.heap.size/\w.heap[k]?=W0.heap[k]?) (hRB:∀ k,Rd k->k<B\/k=bx) (fb:w.heap[bx]?=some (.cells #[pm] 141 (0,0))) (hB1:B<=B1) (hlen:l0.length+xs.length<=30000) :
  Calls PG 32 #[.slice p0 l0.length c0,.func (.func 77) #[] #[At0 bx]] w fun e w'=>(∃ (new:List zbV) (p:OA) (c:Nat),e = .returned (.slice p (l0++new).length c)/\new.map (·.1)=xs/\OwnS exE 46 B w' p c (l0++new)/\∀ x∈l0++new,OwnS evE 49 B w' x.2.1 x.2.2 x.1.ev)/\Below B w w':=by
 refine qk 13 [.slice p0 l0.length c0,.func (.func 77) #[] #[At0 bx]] (.c .p .p) Tryz.func32 ?_;obtain⟨L,hL⟩:=nm (w.heap.size);refine⟨Unit,fun _=>⟨[(1,.func (.func 77) #[] #[At0 bx]),(2,At0 L)],[]⟩,fun _ X=>X.heap[L]?=some (.cells [.slice p0 l0.length c0].toArray 30 (0,0))/\X.heap.size=L+1/\Bw w X,?_,?_⟩
 ·exact⟨(),⟨.cons rfl (.cons (by rw [hL];rfl) .nil),rfl⟩,by rw [hL];exact zy w _,by rw [hL];exact wz _ _,(zba w _)⟩
 rintro _ W ⟨fL,sW,hbW⟩;have hbxw:=hlt fb;obtain⟨F0,hF0⟩:∃ F0:Nat->Prop,F0=fun k=>k=L\/(∃ a,p0=some a/\k=a.block)\/∃ x∈l0,∃ a,x.2.1=some a/\k=a.block:=⟨_,rfl⟩;have hF0B:∀ k,F0 k->B<=k/\k<W.heap.size/\(k≠L->k≠bx):=by
  intro k hk;rw [hF0] at hk;rcases hk with rfl | ⟨a,ha,rfl⟩ | ⟨x,hx,a,ha,rfl⟩
  ·exact⟨by omega,by omega,fun h=>(h rfl).elim⟩
  ·obtain⟨h1,h2,cur,h3⟩:=zx ho ha;exact⟨h1,by omega,fun _ e=>by rw [e,fb] at h3;simp at h3⟩
  ·obtain⟨h1,h2,cur,h3⟩:=zx (hn x hx) ha;exact⟨h1,by omega,fun _ e=>by rw [e,fb] at h3;simp at h3⟩
 have hG0:Gath exE 46 30 B W.heap.size L W (zsn B) l0 F0 W:=by
  refine⟨UR _,by rw [hF0];exact .inl rfl,fun k hk=>(hF0B k hk).2.1,⟨p0,c0,fL,ho.below hbW,fun a ha=>by rw [hF0];exact .inr (.inl ⟨a,ha,rfl⟩)⟩,fun x hx=>⟨(hn x hx).below hbW,fun a ha=>by rw [hF0];exact .inr (.inr ⟨x,hx,a,ha,rfl⟩)⟩,UW _ _⟩
 refine zsZ (ze7 _) rfl (lb := #[At0 bx]) rfl rfl hI (fun pre vs W k ⟨x,q,c,h1,h2,h3⟩ ⟨x',a,c',h4,h5⟩=>?_) (by have:=hbW.size;omega) (fun k hk=>⟨(hRd k hk).1,?_⟩) (fun pre vs W ⟨x,q,c,_,h,_⟩=>by rw [h];rfl) (by decide)
  F0 (fun pre F Y=>∃ xs',(∃ new,xs'=l0++new/\new.map (·.1)=pre/\new.length<=xs.length)/\Gath exE 46 30 B W.heap.size L W (zsn B) xs' F Y) (fun k hk=>?_) (Gath.iter (zfk B) (by omega)) ⟨l0,⟨[],by simp,rfl,UU _⟩,hG0⟩ ?_ ?_
 ·rw [h2] at h4;have h6:exC x q c=exC x' (some a) c':=by
   have h7:=Value.agg.inj (Jw h4);simpa using h7
  have h8:Value.slice q x.ev.length c=Value.slice (some a) x'.ev.length c':=Jw h6;have h9:q=some a:=by injection h8
  obtain⟨_,_,cur,hc⟩:=zx h3 h9;rw [h5];exact⟨_,_,_,hc⟩
 ·rw [<- (hRd k hk).2];exact hbW.block k (by have:=(hRd k hk).1;omega)
 ·intro h;obtain⟨h1,h2,h3⟩:=hF0B k h;have h4:=(hRd k hk).1;rcases hRB k hk with h5 | h5
  ·omega
  ·exact h3 (by omega) h5
 ·rintro yl pre x vs F Y hyl hpre ⟨xs',⟨new,rfl,hnew',hnl⟩,hG⟩ ⟨x',q,c,hlast,rfl,oq⟩ hgv hfy ⟨lo,hlo⟩;have hxx:x=x':=by simpa using hlast
  subst hxx;have hYs:=hG.size;refine zo (X:=Y) (v := .agg (exC x q c).toArray) k46 (zD _ _ _) jx (za0 _ _ _) fun Z hbZ fZ sZ=>?_;have fZ:ExH Z Y.heap.size x q c:=fZ;obtain⟨F1,hF1⟩:∃ F1:Nat->Prop,F1=fun k=>F k\/GvX [.agg (exC x q c).toArray] k:=⟨_,rfl⟩;rw [<- hF1];have hq1:∀ a,q=some a->F1 a.block:=fun a ha=>by
   rw [hF1];exact .inr ⟨x,a,c,by rw [ha],rfl⟩
  have hgq:∀ k,GvX [.agg (exC x q c).toArray] k->∃ a,q=some a/\k=a.block:=by
   rintro k ⟨x',a,c',h4,h5⟩;have h6:exC x q c=exC x' (some a) c':=by
    have h7:=Value.agg.inj (Jw h4);simpa using h7
   have h8:Value.slice q x.ev.length c=Value.slice (some a) x'.ev.length c':=Jw h6;have h9:q=some a:=by injection h8
   exact⟨a,h9,h5⟩
  have hlt1:∀ k,F1 k->k<Y.heap.size:=fun k hk=>by
   rw [hF1] at hk;rcases hk with hk | hk
   ·exact hG.lt k hk
   ·obtain⟨a,ha,rfl⟩:=hgq k hk;exact (zx oq ha).2.1
  have hFF:∀ k,F k->F1 k:=fun k hk=>by rw [hF1];exact .inl hk
  have hG1:Gath exE 46 30 B W.heap.size L W (zsn B) (l0++new) F1 Z:=by
   obtain⟨p,c',h1,h2,h3⟩:=hG.row;have sZ:=hbZ.size;exact⟨by omega,hFF _ hG.inL,fun k hk=>by have:=hlt1 k hk;omega,⟨p,c',zb hbZ h1,h2.below hbZ,fun a ha=>hFF _ (h3 a ha)⟩,fun y hy=>⟨(hG.nest y hy).1.below hbZ,fun a ha=>hFF _ ((hG.nest y hy).2 a ha)⟩,hG.old.trans (hbZ.mono (by omega))⟩
  refine⟨rfl,F1,KeepsG.below hbZ fun k hk => .inl hk,⟨_,⟨new,rfl,hnew',hnl⟩,hG1⟩,?_⟩;rintro O Y2 hY2 ⟨xs2,⟨new2,rfl,hnew2,hnl2⟩,hG2⟩;clear hG1 hnew' hnl hG;have hYl:=hlt hlo;have fY:ExH Y2 Y.heap.size x q c:=by rw [hY2];exact (zj (by omega)).trans fZ
  have oq2:OwnS evE 49 B1 Y2 q c x.ev:=by
   rw [hY2];refine (oq.below hbZ).same fun a ha=>zj fun e=>?_;obtain⟨_,_,cur,hc⟩:=zx oq ha;rw [e,hlo] at hc
   cases hc
  obtain⟨p,c',h4,h5,h6⟩:=hG2.row;refine⟨_,zc (za h4) (i:=0) rfl,exC x q c,zD _ _ _,za fY,hlt fY,?_⟩;obtain⟨nx,hnx⟩:∃ nx:zbV,nx=(x,q,c):=⟨_,rfl⟩;have hen:exC x q c=exE.enc nx:=by rw [hnx];rfl
  have hpl:pre.length<xs.length:=by
   obtain⟨t,ht⟩:=hpre;rw [<- ht];simp only [lap,Qp];omega
  have hn2:new2.length=pre.length:=by rw [<- hnew2,QI]
  refine⟨⟨by decide,by decide,jx⟩,exE.enc nx,by rw [<- hen];exact zaZ (zD _ _ _) jx,?_⟩;have hw2:W.heap.size<=Y2.heap.size:=hG2.size;obtain⟨v,Y5,hrun,S,hrun2,F',hG',hK',hFF'⟩:=hG2.stepX (P:=PG) (ty:=30) (cap1:=1) (zfk B) (by decide) Tryz.underlying30 k46 rfl rfl (by show _=333;exact jx) k30 rfl (by omega) (by omega) (UW _ _) nx (by rw [lap];omega) (by rw [lap];show (_+1)*2416<=_;omega)
   (fun G Z _ _ h3 h4=>zfk B F1 G Y2 Z nx ⟨by rw [hnx];exact oq2.lower hB1,fun a ha=>by rw [hnx] at ha;exact hq1 a ha⟩ h3 h4) p c' h4
  unfold zdX zax;exact SatR.mk hrun (SatR.mk hrun2 ⟨F',⟨_,⟨new2++[nx],by rw [KL],by rw [QL,hnew2,hnx];rfl,by rw [lap];show _+1<=_;omega⟩,hG'⟩,hK'⟩)
 ·rintro D F Y hD hfD ⟨xs',⟨new,rfl,hnew',hnl⟩,hG⟩ hdef;obtain⟨p,c',h4,h5,h6⟩:=hG.row;refine⟨_,zc (za h4) (i:=0) rfl,_,rfl,hdef,?_⟩;have kp:∀ a:Addr,F a.block->(Y.putObj D (.deferred none)).heap[a.block]?=Y.heap[a.block]?:=fun a h2=>zj fun e=>by rw [<- e] at hfD;exact hfD h2
  exact⟨⟨new,p,c',rfl,hnew',h5.same fun a ha=>kp a (h6 a ha),fun x hx=>(hG.nest x hx).1.same fun a ha=>kp a ((hG.nest x hx).2 a ha)⟩,q8 ((hbW.mono hB).trans hG.old) (by omega) _⟩
end Go.Proofs.YtkpaomeeknegpaaGreatDoor
namespace Go.Sei
def zbv (ns:List Nat):Nat:=ns.foldl (· * ·) 1
theorem zlM (ns:List Nat) (n:Nat):zbv (ns++[n])=zbv ns*n:=by
 unfold zbv;rw [KQ];rfl
def zpy (init:List UInt8) (Ts:List (List PathD)):List MixD:=(qa (Ts.map List.length)).filterMap fun ds=>zg5 init (qE Ts ds)
theorem zgJ:∀ (Ts:List (List PathD)) (ds:List Nat) (T:List PathD) (d:Nat),Ts.length=ds.length->qE (Ts++[T]) (ds++[d])=qE Ts ds++(match T[d]? with | some P=>[P] | none=>[])
 | [],[],T,d,_=>by
  show (match T[d]? with | some P=>[P] | none=>[])++[]=_;rw [QF];rfl
 | [],_::_,_,_,h=>by simp at h
 | _::_,[],_,_,h=>by simp at h
 | A::Ts,e::ds,T,d,h=>by
  show (match A[e]? with | some P=>[P] | none=>[])++qE (Ts++[T]) (ds++[d])=((match A[e]? with | some P=>[P] | none=>[])++qE Ts ds)++_;rw [zgJ Ts ds T d (by simpa using h),KL]
theorem zlN (ns:List Nat) (n:Nat):z6 (ns++[n])=z6 ns*n:=by
 rw [zcq];show _*(n*1)=_;rw [US]
theorem zfp:∀ (ns:List Nat) (a:Nat),ns.foldl (· * ·) a=a*z6 ns
 | [],a=>(US a).symm
 | n::ns,a=>by
  show ns.foldl (· * ·) (a*n)=a*(n*z6 ns);rw [zfp ns,UA]
theorem zfg:∀ ns:List Nat,z6 ns.reverse=zbv ns:=fun ns=>by
 have h:∀ l:List Nat,z6 l.reverse=z6 l:=fun l=>by
  induction l with
  | nil=>rfl
  | cons n l ih =>
   rw [KT,zlN,ih];exact UJ _ _
 rw [h];unfold zbv;rw [zfp,UT]
end Go.Sei
namespace Go.Proofs.YtkpaomeeknegpaaGreatDoor
open Go.Vc Go.RowKit Go.Sei
structure MixX where
 m:MixD
 q:OA
 c:Nat
 p1:OA
 c1:Nat
 p2:OA
 c2:Nat
 p3:OA
 c3:Nat
 xs:List zaP
 ys:List zaP
def zod (x:MixX):List Value:=exC x.m.base x.q x.c++[.slice x.p1 x.m.rs.length x.c1,.slice x.p2 x.xs.length x.c2,.slice x.p3 x.ys.length x.c3]
theorem zpA (x:MixX):(zod x).length=336:=by
 unfold zod;rw [lap,zD];rfl
theorem zkx (x:MixX):(zod x).all Value.oneCell'=true:=by
 unfold zod;rw [QE,za0];rfl
def zhR:Enc MixX:=⟨zod,336,zpA,by decide,fun a u hu=>Qg.1 (zkx a) u hu⟩
structure NInM (B:Nat) (F:Nat->Prop) (Y:Wd) (x:MixX):Prop where
 e2:x.xs.map (·.1)=x.m.rs.map (·.2)
 e3:x.ys.map (·.1)=x.m.wr
 ev:RowIn evE 49 B F Y x.q x.c x.m.base.ev
 r1:RowIn zC 3 B F Y x.p1 x.c1 (x.m.rs.map (·.1))
 r2:RowIn jf 62 B F Y x.p2 x.c2 x.xs
 n2:∀ y∈x.xs,RowIn zC 3 B F Y y.2.1 y.2.2 y.1
 r3:RowIn jf 62 B F Y x.p3 x.c3 x.ys
 n3:∀ y∈x.ys,RowIn zC 3 B F Y y.2.1 y.2.2 y.1
theorem NInM.same {B:Nat} {F G:Nat->Prop} {Y Z:Wd} {x:MixX} (h:NInM B F Y x) (k:∀ {α:Type} {E:Enc α} {T c:Nat} {q:OA} {l:List α},T≠95->T≠90->T≠4->RowIn E T B F Y q c l->RowIn E T B G Z q c l):NInM B G Z x :=
 ⟨h.e2,h.e3,k (by decide) (by decide) (by decide) h.ev,k (by decide) (by decide) (by decide) h.r1,k (by decide) (by decide) (by decide) h.r2,fun y hy=>k (by decide) (by decide) (by decide) (h.n2 y hy),k (by decide) (by decide) (by decide) h.r3,fun y hy=>k (by decide) (by decide) (by decide) (h.n3 y hy)⟩
theorem NInM.lower {B B':Nat} {F:Nat->Prop} {Y:Wd} {x:MixX} (h:NInM B F Y x) (hB:B'<=B):NInM B' (fun k=>B'<=k) Y x:=by
 have k:∀ {α:Type} {E:Enc α} {T c:Nat} {q:OA} {l:List α},RowIn E T B F Y q c l->RowIn E T B' (fun k=>B'<=k) Y q c l:=fun {α E T c q l} hr=>⟨hr.own.lower hB,fun a ha=>(zx (hr.own.lower hB) ha).1⟩;exact⟨h.e2,h.e3,k h.ev,k h.r1,k h.r2,fun y hy=>k (h.n2 y hy),k h.r3,fun y hy=>k (h.n3 y hy)⟩
theorem zik (B:Nat):ziI 95 90 (NInM B):=by
 rintro F G Y Z x h hs hg;refine h.same fun {α E T c q l} t1 t2 _ hr=>⟨hr.own.same fun a ha=>?_,fun a ha=>hg _ (hr.inF a ha)⟩;obtain⟨_,_,cur,hc⟩:=zx hr.own ha;exact hs _ cur _ (hr.inF a ha) hc t1 t2
abbrev TpR:=List zdv×OA×Nat
def tpE:Enc TpR where
 sz:=1
 enc x:=[.slice x.2.1 x.1.length x.2.2]
 len x:=rfl
 one x v hv:=by
  simp at hv;subst hv;rfl
 pos:=by decide
structure MxS (B:Nat) (Z:Wd) (L bP:Nat) (ss:List Nat) (ps:OA) (cs:Nat) (ts:List TpR) (pT:OA) (cT:Nat):Prop where
 f0:Z.heap[L]?=some (.cells #[At0 bP] 85 (0,0))
 f1:Z.heap[L+1]?=some (.cells #[.slice none 0 0] 90 (0,0))
 f2:Z.heap[L+2]?=some (.cells #[.bool false] 4 (0,0))
 f3:Z.heap[L+3]?=some (.cells #[.slice pT ts.length cT] 129 (0,0))
 own:OwnS zC 3 B Z ps cs ss
 rk:OwnS tpE 130 B Z pT cT ts
 n1:∀ z∈ts,OwnS jT 138 B Z z.2.1 z.2.2 z.1
 n2:∀ z∈ts,∀ x∈z.1,PthO B Z x
theorem PthO.same {B:Nat} {Y Z:Wd} {x:zdv} (h:PthO B Y x) (k:∀ {α:Type} {E:Enc α} {T c:Nat} {q:OA} {l:List α},T=49\/T=231->OwnS E T B Y q c l->OwnS E T B Z q c l):PthO B Z x :=
 ⟨k (.inl rfl) h.1,k (.inr rfl) h.2.1,k (.inr rfl) h.2.2.1,k (.inr rfl) h.2.2.2⟩
theorem MxS.below {B:Nat} {Z Y:Wd} {L bP:Nat} {ss:List Nat} {ps:OA} {cs:Nat} {ts:List TpR} {pT:OA} {cT:Nat} (h:MxS B Z L bP ss ps cs ts pT cT) (hb:Bw Z Y):MxS B Y L bP ss ps cs ts pT cT :=
 ⟨zb hb h.f0,zb hb h.f1,zb hb h.f2,zb hb h.f3,h.own.below hb,h.rk.below hb,fun z hz=>(h.n1 z hz).below hb,fun z hz x hx=>(h.n2 z hz x hx).same fun {α E T c q l} _ ho=>ho.below hb⟩
theorem MxS.size {B:Nat} {Z Y:Wd} {L bP n:Nat} {ss:List Nat} {ps ps':OA} {cs cs':Nat} {ts:List TpR} {pT:OA} {cT:Nat} (h:MxS B Z L bP ss ps cs ts pT cT) (ho:OwnS zC 3 B Y ps' cs' (ss++[n])) (g:Z.grownBy Y (ps.map Addr.block)):MxS B Y L bP (ss++[n]) ps' cs' ts pT cT :=
 ⟨qo h.f0 h.own (by decide) g,qo h.f1 h.own (by decide) g,qo h.f2 h.own (by decide) g,qo h.f3 h.own (by decide) g,ho,jK h.rk h.own (by decide) g,fun z hz=>jK (h.n1 z hz) h.own (by decide) g,fun z hz x hx=>(h.n2 z hz x hx).same fun {α E T c q l} ht hoo=>jK hoo h.own (by rcases ht with rfl | rfl <;> decide) g⟩
theorem zuQ {B c:Nat} {V1:Wd} {p:OA} {l:List TpR} {y:TpR} {a:Addr} (ho:OwnS tpE 130 B V1 p c l) (ha:zI V1 a ([y].flatMap tpE.enc)) (hB:B<=V1.heap.size) (hl:l.length<=100000) {K:Value->Wd->Prop}
  (h:∀ p' c' w',OwnS tpE 130 B w' p' c' (l++[y])->V1.grownBy w' (p.map Addr.block)->(∀ a,p'=some a->p=some a\/a.block=V1.heap.size)->K (.slice p' (l++[y]).length c') w') :
  SatR ((Builtin.append_ #[129,129] 129 #[.slice p l.length c,.slice (some a) 1 1]).run PG V1) K :=
 jj (E:=tpE) (T:=130) (B:=B) (l:=l) (news:=[y]) (cap:=c) (m:=1) Tryz.underlying129 zpJ rfl rfl rfl ho rfl ha hB (by omega) (by show (l.length+1)*24<=_;omega) fun p' c' w' a1 a2 _ a4=>h p' c' w' a1 (by rw [zad] at a2;exact a2) a4
theorem zuS {B c:Nat} {V1:Wd} {p:OA} {l:List zdv} {y:zdv} {a:Addr} (ho:OwnS jT 138 B V1 p c l) (ha:zI V1 a ([y].flatMap jT.enc)) (hB:B<=V1.heap.size) (hl:l.length<=100000) {K:Value->Wd->Prop}
  (h:∀ p' c' w',OwnS jT 138 B w' p' c' (l++[y])->V1.grownBy w' (p.map Addr.block)->(∀ a,p'=some a->p=some a\/a.block=V1.heap.size)->K (.slice p' (l++[y]).length c') w') :
  SatR ((Builtin.append_ #[130,130] 130 #[.slice p l.length c,.slice (some a) 1 1]).run PG V1) K :=
 jj (E:=jT) (T:=138) (B:=B) (l:=l) (news:=[y]) (cap:=c) (m:=1) Tryz.underlying130 zog rfl rfl rfl ho rfl ha hB (by omega) (by show (l.length+1)*104<=_;omega) fun p' c' w' a1 a2 _ a4=>h p' c' w' a1 (by rw [zad] at a2;exact a2) a4
structure ThrQ (V:List UInt8) (l:List InsD):Prop where
 l12:l.length<=12
 ex:∀ x∈l,zuX x
 ok:qy l 6=true
 m:(qA l (ded V)).length<=4096
end Go.Proofs.YtkpaomeeknegpaaGreatDoor
namespace Go.Proofs.YtkpaomeeknegpaaGreatDoor
open Go.Vc Go.RowKit Go.Sei
open Go.Sort (swp)
abbrev RB (w:Wd) (g:Nat) (sp:List Value) (d:Array UInt8):Prop:=RowS zR 5 w g sp d.toList
def lt8 (x y:UInt8):Bool:=decide ((x.toNat:Int)<(y.toNat:Int))
theorem zoZ:Go.Sort.SWO lt8 where
 irrefl:=fun x=>Uc (by omega)
 trans:=fun x y z h1 h2=>by
  have h1:=dT h1;have h2:=dT h2;exact Un (by omega)
 ntrans:=fun x y z h1 h2=>by
  have h1:=dF h1;have h2:=dF h2;exact Uc (by omega)
section
variable {w:Wd} {g i j:Nat} {sp:List Value} {d:Array UInt8}
theorem zu (h:RB w g sp d) (hi:i<d.size):w.cell? ⟨g,0+i*1,none⟩=some (u8 d[i]!):=by
 have h1:i<d.toList.length:=by simpa using hi
 have:=zdt h h1;rw [this,getElem!_pos d i hi];simp
theorem zN {P:Program} {iT:TI} (hT:TIok P 5 iT) (hs:iT.size=1) (hr:RB w g sp d) (hi:i<d.size) (x:UInt8) {K:Wd->Prop}
  (k:∀ w',RB w' g sp (d.setIfInBounds i x)->w.grownBy w' (some g)->K w') :
  SatR ((storeVar 5 ⟨g,0+i*1,none⟩ (.agg (zR.enc x).toArray)).run P w) fun _ w'=>K w':=by
 refine zh5 hT hs hr (i:=i) (by simpa using hi) x fun Z hRZ gZ sZ=>k Z ?_ gZ;show RowS zR 5 Z g sp (d.setIfInBounds i x).toList;rw [Array.toList_setIfInBounds];exact hRZ
theorem zz (w:Wd) (g:Nat):w.grownBy w.drew (some g):=⟨rfl,rfl,rfl,UR _,fun _ _ _=>rfl⟩
end
section
variable {w:Wd} {g cap L a b:Nat} {sp:List Value} {d:Array UInt8}
theorem ztg (hr:RB w g sp d) (hL:d.size=L) (hab:a<=b) (hb:b<=L) (hl:L<=1000000) :
  Calls PG 165 #[.slice (some ⟨g,0,none⟩) L cap,i64 a,i64 b] w fun e w'=>e = .returned (.tuple #[])/\RB w' g sp (Go.Sort.insertionSort lt8 d a b)/\w.grownBy w' (some g):=by
 refine zF 49 [.slice (some ⟨g,0,none⟩) L cap,i64 a,i64 b] Tryz.func165 ?_;obtain⟨R,hR⟩:=nm (Go.Sort.insertionSort lt8 d a b);rw [<- hR];refine⟨((a+1:Nat):Int),(ze (by first | omega | (dsimp only;omega))).trans (by first | omega | (dsimp only;omega)),Nat×Array UInt8,fun s=>⟨[(0,.slice (some ⟨g,0,none⟩) L cap),(1,i64 a),(2,i64 b),(6,i64 (s.1:Nat))],[]⟩,fun s X=>a+1<=s.1/\s.2.size=L/\Go.Sort.insOuter lt8 a b s.1 s.2=R/\RB X g sp s.2/\w.grownBy X (some g),fun s=>b-s.1,(a+1,d),(cvE rfl rfl),⟨UR _,hL,by rw [hR];rfl,hr,qg _ _⟩,?_⟩;rintro⟨i,d1⟩ X ⟨hi,hs1,hR1,hrX,gX⟩;dsimp only at hi hs1 hR1 hrX;rw [Go.Sort.insOuter] at hR1;refine biE (fun hc=>?_) fun hc=>?_
 ·have hc:(i:Int)<(b:Int):=dT hc;have hib:i<b:=by omega
  rw [Gi hib] at hR1;refine⟨Nat×Array UInt8,fun s=>⟨[(0,.slice (some ⟨g,0,none⟩) L cap),(1,i64 a),(2,i64 b),(6,i64 (i:Nat)),(7,i64 (s.1:Nat))],[]⟩,fun s Y=>a<=s.1/\s.1<=i/\s.2.size=L/\Go.Sort.insInner lt8 a s.1 s.2=Go.Sort.insInner lt8 a i d1/\RB Y g sp s.2/\w.grownBy Y (some g),fun s=>s.1,(i,d1),(cvE rfl rfl),⟨by show a<=i;omega,UR _,hs1,rfl,hrX,gX⟩,?_⟩;rintro⟨j,d2⟩ Y ⟨hj,hji,hs2,hR2,hrY,gY⟩;dsimp only at hj hji hs2 hR2 hrY;have hout:∀ Z d3,Go.Sort.insInner lt8 a i d1=d3->d3.size=L->RB Z g sp d3->w.grownBy Z (some g)->a+1<=i+1/\d3.size=L/\Go.Sort.insOuter lt8 a b (i+1) d3=R/\RB Z g sp d3/\w.grownBy Z (some g):=fun Z d3 e z q gz=>⟨by omega,z,by rw [<- e];exact hR1,q,gz⟩;have gYd:=zd gY (zz Y g);have qd:RB Y.drew g sp d2:=hrY;refine DrawE.ord [] [0,1,2,3,4,5,6,7,8,9,10,11,12,13,14] (by kernel_rfl) (biE (fun h2=>?_) fun h2=>?_)
  ·have h2:(a:Int)<(j:Int):=dT h2;obtain⟨k,rfl⟩:∃ k,j=k+1:=⟨j-1,by omega⟩;have hk1:k+1<d2.size:=by omega
   have hk:k<d2.size:=by omega
   have e2:Go.Sort.insInner lt8 a (k+1) d2=if (decide (k+1 > a)&&lt8 d2[k+1]! d2[k]!)=true then Go.Sort.insInner lt8 a k (swp d2 (k+1) k) else d2:=rfl
   have e3:decide (k+1 > a)=true:=Un (by omega);rw [e2,e3,Ut] at hR2;refine⟨k+1,rfl,by omega,?_⟩;refine⟨_,zu qd hk1,((k:Nat):Int),(ze (by first | omega | (dsimp only;omega))).trans (by first | omega | (dsimp only;omega)),k,rfl,by omega,?_⟩;refine⟨_,zu qd hk,cmo jH ?_⟩;rintro e _ ⟨rfl,rfl⟩;refine⟨UW _ _,biE (fun h3=>?_) fun h3=>?_⟩
   ·have h3:lt8 d2[k+1]! d2[k]! = true:=h3;rw [Gi h3] at hR2;have qe:RB Y.drew.drew g sp d2:=qd;refine DrawE.ord [15,17] [0,1,2,3,4,5,6,7,8,9,10,11,12,13,14,15,16,17] (by kernel_rfl) ⟨((k:Nat):Int),(ze (by first | omega | (dsimp only;omega))).trans (by first | omega | (dsimp only;omega)),((k:Nat):Int),(ze (by first | omega | (dsimp only;omega))).trans (by first | omega | (dsimp only;omega)),k,rfl,by omega,?_⟩;refine⟨_,zu qe hk,k+1,rfl,by omega,?_⟩;refine⟨_,zu qe hk1,k+1,rfl,by omega,?_⟩;refine zN k5 rfl qe hk1 d2[k]! fun V1 q1 g1=>⟨k,rfl,by omega,?_⟩;refine zN k5 rfl q1 (by rw [Array.size_setIfInBounds];exact hk) d2[k+1]! fun V2 q2 g2=>?_;have q2:RB V2 g sp (swp d2 (k+1) (k)):=q2;have z2:(swp d2 (k+1) (k)).size=d2.size:=Go.Sort.size_swp d2 (k+1) (k);exact⟨((k:Nat):Int),(ze (by first | omega | (dsimp only;omega))).trans (by first | omega | (dsimp only;omega)),(k,swp d2 (k+1) k),(cvE rfl rfl),⟨by show a<=k;omega,by show k<=i;omega,by rw [z2];exact hs2,hR2,q2,zd gYd (zd (zz _ g) (zd g1 g2))⟩,Qx k⟩
   ·have h3:lt8 d2[k+1]! d2[k]! = false:=h3;rw [Gh (by rw [h3];exact Ks)] at hR2;exact⟨((i+1:Nat):Int),(ze (by first | omega | (dsimp only;omega))).trans (by first | omega | (dsimp only;omega)),(i+1,d2),(cvE rfl rfl),hout _ _ hR2.symm hs2 qd gYd,zdc (by omega)⟩
  ·have h2:¬ (a:Int)<(j:Int):=dF h2;have hja:j=a:=by omega
   subst hja;have e2:Go.Sort.insInner lt8 j j d2=d2:=by
    cases j with
    | zero=>rfl
    | succ k =>
     show (if (decide (k+1 > k+1)&&lt8 d2[k+1]! d2[k]!)=true then _ else d2)=d2;rw [Uc (by omega),Ue];rfl
   rw [e2] at hR2;exact Ga (fun h=>by cases h) (fun _=>⟨((i+1:Nat):Int),(ze (by first | omega | (dsimp only;omega))).trans (by first | omega | (dsimp only;omega)),(i+1,d2),(cvE rfl rfl),hout _ _ hR2.symm hs2 qd gYd,zdc (by omega)⟩)
 ·have hc:¬ (i:Int)<(b:Int):=dF hc;rw [Gh (by omega)] at hR1;exact⟨rfl,hR1▸hrX,gX⟩
end
def zbF (hi first root:Nat) (d:Array UInt8):Nat:=if (decide (2*root+1+1<hi)&&lt8 d[first+(2*root+1)]! d[first+(2*root+1)+1]!)=true then 2*root+2 else 2*root+1
theorem zgw {hi first root:Nat} {d:Array UInt8} (h:¬ 2*root+1<hi):Go.Sort.siftDown lt8 hi first root d=d:=by
 rw [Go.Sort.siftDown,dif_pos (by omega)]
theorem zmz {hi first root:Nat} {d:Array UInt8} (h:2*root+1<hi):Go.Sort.siftDown lt8 hi first root d =
  if (!lt8 d[first+root]! d[first+zbF hi first root d]!)=true then d else Go.Sort.siftDown lt8 hi first (zbF hi first root d) (swp d (first+root) (first+zbF hi first root d)):=by
 rw [Go.Sort.siftDown,dif_neg (by omega)];unfold zbF;by_cases h2:(decide (2*root+1+1<hi)&&lt8 d[first+(2*root+1)]! d[first+(2*root+1)+1]!)=true
 ·have h3:2*root+2<hi:=by
   rw [bAT,dE] at h2;omega
  rw [Gi h2,Gi h2,dif_pos h3]
 ·rw [Gh h2,Gh h2]
theorem zia {hi first root:Nat} {d:Array UInt8} (h:2*root+1<hi):zbF hi first root d<hi/\root<zbF hi first root d:=by
 unfold zbF
 split
 ·rename_i h2;rw [bAT,dE] at h2;omega
 ·omega
section
variable {w:Wd} {g cap L a b:Nat} {sp:List Value} {d:Array UInt8}
theorem zo4 {lo hi first:Nat} (hr:RB w g sp d) (hL:d.size=L) (hb:first+hi<=L) (hl:L<=1000000) (hlo:lo<=1000000) :
  Calls PG 187 #[.slice (some ⟨g,0,none⟩) L cap,i64 lo,i64 hi,i64 first] w fun e w'=>e = .returned (.tuple #[])/\RB w' g sp (Go.Sort.siftDown lt8 hi first lo d)/\w.grownBy w' (some g):=by
 refine zF 76 [.slice (some ⟨g,0,none⟩) L cap,i64 lo,i64 hi,i64 first] Tryz.func187 ?_;obtain⟨R,hR⟩:=nm (Go.Sort.siftDown lt8 hi first lo d);rw [<- hR];refine⟨Nat×Array UInt8,fun s=>⟨[(0,.slice (some ⟨g,0,none⟩) L cap),(1,i64 lo),(2,i64 hi),(3,i64 first),(8,i64 (s.1:Nat))],[]⟩,fun s X=>s.1<=1000000/\s.2.size=L/\Go.Sort.siftDown lt8 hi first s.1 s.2=R/\RB X g sp s.2/\w.grownBy X (some g),fun s=>hi-s.1,(lo,d),(cvE rfl rfl),⟨hlo,hL,hR.symm,hr,qg _ _⟩,?_⟩;rintro⟨root,d1⟩ X ⟨hro,hs1,hR1,hrX,gX⟩;dsimp only at hro hs1 hR1 hrX;refine⟨((2*root:Nat):Int),(ze (by first | omega | (dsimp only;omega))).trans (by first | omega | (dsimp only;omega)),((2*root+1:Nat):Int),(ze (by first | omega | (dsimp only;omega))).trans (by first | omega | (dsimp only;omega)),biE (fun hc=>?_) fun hc=>?_⟩
 ·have hc:(hi:Int)<=((2*root+1:Nat):Int):=dT hc;rw [zgw (by omega)] at hR1;exact⟨rfl,hR1▸hrX,gX⟩
 ·have hc:¬ (hi:Int)<=((2*root+1:Nat):Int):=dF hc;have hch:2*root+1<hi:=by omega
  rw [zmz hch] at hR1;obtain⟨hclt,hcr⟩:=zia (d:=d1) (first:=first) hch;obtain⟨c,hcd⟩:=nm (zbF hi first root d1);rw [<- hcd] at hR1 hclt hcr;have qd:RB X.drew g sp d1:=hrX;have gXd:=zd gX (zz X g);refine DrawE.ord [] [0,1,2,3,4,5,6,7,8,9,10,11,12,13,14,15,16,17,18,19] (by kernel_rfl) ⟨((2*root+1+1:Nat):Int),(ze (by first | omega | (dsimp only;omega))).trans (by first | omega | (dsimp only;omega)),biE (fun h2=>?_) fun h2=>?_⟩
  ·have h2:((2*root+1+1:Nat):Int)<(hi:Int):=dT h2;have h2:2*root+1+1<hi:=by omega
   have hx1:first+(2*root+1)<d1.size:=by omega
   have hx2:first+(2*root+1)+1<d1.size:=by omega
   refine⟨((first+(2*root+1):Nat):Int),(ze (by first | omega | (dsimp only;omega))).trans (by first | omega | (dsimp only;omega)),first+(2*root+1),rfl,by omega,?_⟩;refine⟨_,zu qd hx1,((first+(2*root+1):Nat):Int),(ze (by first | omega | (dsimp only;omega))).trans (by first | omega | (dsimp only;omega)),((first+(2*root+1)+1:Nat):Int),(ze (by first | omega | (dsimp only;omega))).trans (by first | omega | (dsimp only;omega)),first+(2*root+1)+1,rfl,by omega,?_⟩;refine⟨_,zu qd hx2,cmo jH ?_⟩;rintro e _ ⟨rfl,rfl⟩;refine⟨UW _ _,biE (fun h3=>?_) fun h3=>?_⟩
   ·have h3:lt8 d1[first+(2*root+1)]! d1[first+(2*root+1)+1]! = true:=h3;have hce:c=2*root+2:=(by rw [hcd];unfold zbF;rw [h3,Un h2];rfl);subst hce;clear hcd;refine⟨((2*root+2:Nat):Int),(ze (by first | omega | (dsimp only;omega))).trans (by first | omega | (dsimp only;omega)),?_⟩;have hi1:first+root<d1.size:=by omega
    have hi2:first+(2*root+2)<d1.size:=by omega
    have q5:RB X.drew.drew g sp d1:=hrX;refine DrawE.ord [] [0,1,2,3,4,5,6,7,8,9,10,11,12,13] (by kernel_rfl) ⟨((first+root:Nat):Int),(ze (by first | omega | (dsimp only;omega))).trans (by first | omega | (dsimp only;omega)),first+root,rfl,by omega,?_⟩;refine⟨_,zu q5 hi1,((first+(2*root+2):Nat):Int),(ze (by first | omega | (dsimp only;omega))).trans (by first | omega | (dsimp only;omega)),first+(2*root+2),rfl,by omega,?_⟩;refine⟨_,zu q5 hi2,cmo jH ?_⟩;rintro e _ ⟨rfl,rfl⟩;refine⟨UW _ _,biE (fun h4=>?_) fun h4=>?_⟩
    ·have h4:(!lt8 d1[first+root]! d1[first+(2*root+2)]!)=true:=h4;rw [Gi h4] at hR1;exact⟨rfl,hR1▸hrX,zd gXd (zz _ g)⟩
    ·have h4:(!lt8 d1[first+root]! d1[first+(2*root+2)]!)=false:=h4;rw [Gh (by rw [h4];exact Ks)] at hR1;have q6:RB X.drew.drew.drew g sp d1:=hrX;refine DrawE.ord [21,23] [0,1,2,3,4,5,6,7,8,9,10,11,12,13,14,15,16,17,18,19,20,21,22,23] (by kernel_rfl) ⟨((first+root:Nat):Int),(ze (by first | omega | (dsimp only;omega))).trans (by first | omega | (dsimp only;omega)),((first+(2*root+2):Nat):Int),(ze (by first | omega | (dsimp only;omega))).trans (by first | omega | (dsimp only;omega)),((first+(2*root+2):Nat):Int),(ze (by first | omega | (dsimp only;omega))).trans (by first | omega | (dsimp only;omega)),first+(2*root+2),rfl,by omega,?_⟩;refine⟨_,zu q6 hi2,((first+root:Nat):Int),(ze (by first | omega | (dsimp only;omega))).trans (by first | omega | (dsimp only;omega)),first+root,rfl,by omega,?_⟩;refine⟨_,zu q6 hi1,first+root,rfl,by omega,?_⟩;refine zN k5 rfl q6 hi1 d1[first+(2*root+2)]! fun V1 q1 g1=>⟨first+(2*root+2),rfl,by omega,?_⟩;refine zN k5 rfl q1 (by rw [Array.size_setIfInBounds];exact hi2) d1[first+root]! fun V2 q2 g2=>?_;have q2:RB V2 g sp (swp d1 (first+root) (first+(2*root+2))):=q2;have z2:(swp d1 (first+root) (first+(2*root+2))).size=d1.size:=Go.Sort.size_swp d1 (first+root) (first+(2*root+2));exact⟨(2*root+2,swp d1 (first+root) (first+(2*root+2))),(cvE rfl rfl),⟨by show 2*root+2<=1000000;omega,by rw [z2];exact hs1,hR1,q2,zd gXd (zd (zz _ g) (zd (zz _ g) (zd g1 g2)))⟩,by show hi-(2*root+2)<hi-root;omega⟩
   ·have h3:lt8 d1[first+(2*root+1)]! d1[first+(2*root+1)+1]! = false:=h3;have hce:c=2*root+1:=(by rw [hcd];unfold zbF;rw [h3,Ud];rfl);subst hce;clear hcd;have hi1:first+root<d1.size:=by omega
    have hi2:first+(2*root+1)<d1.size:=by omega
    have q5:RB X.drew.drew g sp d1:=hrX;refine DrawE.ord [] [0,1,2,3,4,5,6,7,8,9,10,11,12,13] (by kernel_rfl) ⟨((first+root:Nat):Int),(ze (by first | omega | (dsimp only;omega))).trans (by first | omega | (dsimp only;omega)),first+root,rfl,by omega,?_⟩;refine⟨_,zu q5 hi1,((first+(2*root+1):Nat):Int),(ze (by first | omega | (dsimp only;omega))).trans (by first | omega | (dsimp only;omega)),first+(2*root+1),rfl,by omega,?_⟩;refine⟨_,zu q5 hi2,cmo jH ?_⟩;rintro e _ ⟨rfl,rfl⟩;refine⟨UW _ _,biE (fun h4=>?_) fun h4=>?_⟩
    ·have h4:(!lt8 d1[first+root]! d1[first+(2*root+1)]!)=true:=h4;rw [Gi h4] at hR1;exact⟨rfl,hR1▸hrX,zd gXd (zz _ g)⟩
    ·have h4:(!lt8 d1[first+root]! d1[first+(2*root+1)]!)=false:=h4;rw [Gh (by rw [h4];exact Ks)] at hR1;have q6:RB X.drew.drew.drew g sp d1:=hrX;refine DrawE.ord [21,23] [0,1,2,3,4,5,6,7,8,9,10,11,12,13,14,15,16,17,18,19,20,21,22,23] (by kernel_rfl) ⟨((first+root:Nat):Int),(ze (by first | omega | (dsimp only;omega))).trans (by first | omega | (dsimp only;omega)),((first+(2*root+1):Nat):Int),(ze (by first | omega | (dsimp only;omega))).trans (by first | omega | (dsimp only;omega)),((first+(2*root+1):Nat):Int),(ze (by first | omega | (dsimp only;omega))).trans (by first | omega | (dsimp only;omega)),first+(2*root+1),rfl,by omega,?_⟩;refine⟨_,zu q6 hi2,((first+root:Nat):Int),(ze (by first | omega | (dsimp only;omega))).trans (by first | omega | (dsimp only;omega)),first+root,rfl,by omega,?_⟩;refine⟨_,zu q6 hi1,first+root,rfl,by omega,?_⟩;refine zN k5 rfl q6 hi1 d1[first+(2*root+1)]! fun V1 q1 g1=>⟨first+(2*root+1),rfl,by omega,?_⟩;refine zN k5 rfl q1 (by rw [Array.size_setIfInBounds];exact hi2) d1[first+root]! fun V2 q2 g2=>?_;have q2:RB V2 g sp (swp d1 (first+root) (first+(2*root+1))):=q2;have z2:(swp d1 (first+root) (first+(2*root+1))).size=d1.size:=Go.Sort.size_swp d1 (first+root) (first+(2*root+1));exact⟨(2*root+1,swp d1 (first+root) (first+(2*root+1))),(cvE rfl rfl),⟨by show 2*root+1<=1000000;omega,by rw [z2];exact hs1,hR1,q2,zd gXd (zd (zz _ g) (zd (zz _ g) (zd g1 g2)))⟩,by show hi-(2*root+1)<hi-root;omega⟩
  ·have h2:¬ ((2*root+1+1:Nat):Int)<(hi:Int):=dF h2;refine Ga (fun h=>by cases h) (fun _=>?_);have hce:c=2*root+1:=by rw [hcd];unfold zbF;rw [Uc (by omega),Ue];rfl
   subst hce;clear hcd;have hi1:first+root<d1.size:=by omega
   have hi2:first+(2*root+1)<d1.size:=by omega
   have q5:RB X.drew.drew g sp d1:=hrX;refine DrawE.ord [] [0,1,2,3,4,5,6,7,8,9,10,11,12,13] (by kernel_rfl) ⟨((first+root:Nat):Int),(ze (by first | omega | (dsimp only;omega))).trans (by first | omega | (dsimp only;omega)),first+root,rfl,by omega,?_⟩;refine⟨_,zu q5 hi1,((first+(2*root+1):Nat):Int),(ze (by first | omega | (dsimp only;omega))).trans (by first | omega | (dsimp only;omega)),first+(2*root+1),rfl,by omega,?_⟩;refine⟨_,zu q5 hi2,cmo jH ?_⟩;rintro e _ ⟨rfl,rfl⟩;refine⟨UW _ _,biE (fun h4=>?_) fun h4=>?_⟩
   ·have h4:(!lt8 d1[first+root]! d1[first+(2*root+1)]!)=true:=h4;rw [Gi h4] at hR1;exact⟨rfl,hR1▸hrX,zd gXd (zz _ g)⟩
   ·have h4:(!lt8 d1[first+root]! d1[first+(2*root+1)]!)=false:=h4;rw [Gh (by rw [h4];exact Ks)] at hR1;have q6:RB X.drew.drew.drew g sp d1:=hrX;refine DrawE.ord [21,23] [0,1,2,3,4,5,6,7,8,9,10,11,12,13,14,15,16,17,18,19,20,21,22,23] (by kernel_rfl) ⟨((first+root:Nat):Int),(ze (by first | omega | (dsimp only;omega))).trans (by first | omega | (dsimp only;omega)),((first+(2*root+1):Nat):Int),(ze (by first | omega | (dsimp only;omega))).trans (by first | omega | (dsimp only;omega)),((first+(2*root+1):Nat):Int),(ze (by first | omega | (dsimp only;omega))).trans (by first | omega | (dsimp only;omega)),first+(2*root+1),rfl,by omega,?_⟩;refine⟨_,zu q6 hi2,((first+root:Nat):Int),(ze (by first | omega | (dsimp only;omega))).trans (by first | omega | (dsimp only;omega)),first+root,rfl,by omega,?_⟩;refine⟨_,zu q6 hi1,first+root,rfl,by omega,?_⟩;refine zN k5 rfl q6 hi1 d1[first+(2*root+1)]! fun V1 q1 g1=>⟨first+(2*root+1),rfl,by omega,?_⟩;refine zN k5 rfl q1 (by rw [Array.size_setIfInBounds];exact hi2) d1[first+root]! fun V2 q2 g2=>?_;have q2:RB V2 g sp (swp d1 (first+root) (first+(2*root+1))):=q2;have z2:(swp d1 (first+root) (first+(2*root+1))).size=d1.size:=Go.Sort.size_swp d1 (first+root) (first+(2*root+1));exact⟨(2*root+1,swp d1 (first+root) (first+(2*root+1))),(cvE rfl rfl),⟨by show 2*root+1<=1000000;omega,by rw [z2];exact hs1,hR1,q2,zd gXd (zd (zz _ g) (zd (zz _ g) (zd g1 g2)))⟩,by show hi-(2*root+1)<hi-root;omega⟩
theorem ze6 (hi first:Nat):∀ (n root:Nat) (d:Array UInt8),hi-root<=n->(Go.Sort.siftDown lt8 hi first root d).size=d.size
 | 0,root,d,h=>by rw [zgw (by omega)]
 | n+1,root,d,h=>by
  by_cases hc:2*root+1<hi
  ·have:=zia (d:=d) (first:=first) hc;rw [zmz hc]
   split
   ·rfl
   ·rw [ze6 hi first n _ _ (by omega)];exact Go.Sort.size_swp ..
  ·rw [zgw hc]
theorem zru (hr:RB w g sp d) (hL:d.size=L) (hab:a<b) (hb:b<=L) (hl:L<=1000000) :
  Calls PG 166 #[.slice (some ⟨g,0,none⟩) L cap,i64 a,i64 b] w fun e w'=>e = .returned (.tuple #[])/\RB w' g sp (Go.Sort.heapSort lt8 d a b)/\w.grownBy w' (some g):=by
 refine zF 56 [.slice (some ⟨g,0,none⟩) L cap,i64 a,i64 b] Tryz.func166 ?_;obtain⟨R,hR⟩:=nm (Go.Sort.heapSort lt8 d a b);rw [<- hR];refine⟨((b-a:Nat):Int),(ze (by first | omega | (dsimp only;omega))).trans (by first | omega | (dsimp only;omega)),((b-a-1:Nat):Int),(ze (by first | omega | (dsimp only;omega))).trans (by first | omega | (dsimp only;omega)),by decide,(((b-a-1)/2:Nat):Int),(Gd _ (show ((b-a-1:Nat):Int).tdiv 2=(((b-a-1)/2:Nat):Int) from rfl)).trans (ze (by omega)),Nat×Array UInt8,fun s=>⟨[(0,.slice (some ⟨g,0,none⟩) L cap),(1,i64 a),(2,i64 b),(6,i64 a),(7,i64 0),(8,i64 (b-a:Nat)),(9,i64 ((s.1:Int)-1))],[]⟩,fun s X=>s.1<=(b-a-1)/2+1/\s.2.size=L/\Go.Sort.heapPop lt8 a (b-a) (Go.Sort.heapBuild lt8 (b-a) a s.1 s.2)=R/\RB X g sp s.2/\w.grownBy X (some g),fun s=>s.1,((b-a-1)/2+1,d),⟨.cons rfl (.cons rfl (.cons rfl (.cons rfl (.cons rfl (.cons rfl (.cons (by dsimp only;rw [show ((((b-a-1)/2+1:Nat):Int)-1)=(((b-a-1)/2:Nat):Int) by omega];rfl) .nil)))))),rfl⟩,⟨UR _,hL,hR.symm,hr,qg _ _⟩,?_⟩;rintro⟨k,d1⟩ X ⟨hk,hs1,hR1,hrX,gX⟩;dsimp only at hk hs1 hR1 hrX;refine biE (fun hc=>?_) fun hc=>?_
 ·have hc:(0:Int)<=(k:Int)-1:=dT hc;obtain⟨m,rfl⟩:∃ m,k=m+1:=⟨k-1,by omega⟩;have hm:(((m+1:Nat):Int)-1)=(m:Int):=by omega
  have c1:=zo4 (cap:=cap) (lo:=m) (hi:=b-a) (first:=a) hrX hs1 (by omega) hl (by omega);rw [<- hm] at c1;refine cmo c1 ?_;rintro e Y ⟨rfl,qY,gY⟩;exact⟨(m:Int)-1,(ze (by omega)).trans (by omega),(m,Go.Sort.siftDown lt8 (b-a) a m d1),(cvE rfl rfl),⟨by show m<=_;omega,by show (Go.Sort.siftDown ..).size=L;rw [ze6 _ _ _ _ _ (UR _)];exact hs1,hR1,qY,zd gX gY⟩,Qx m⟩
 ·have hc:¬ (0:Int)<=(k:Int)-1:=dF hc;obtain rfl:k=0:=by omega
  have hR1:Go.Sort.heapPop lt8 a (b-a) d1=R:=hR1;refine⟨((b-a-1:Nat):Int),(ze (by first | omega | (dsimp only;omega))).trans (by first | omega | (dsimp only;omega)),Nat×Array UInt8,fun s=>⟨[(0,.slice (some ⟨g,0,none⟩) L cap),(1,i64 a),(2,i64 b),(6,i64 a),(7,i64 0),(8,i64 (b-a:Nat)),(10,i64 ((s.1:Int)-1))],[]⟩,fun s Y=>s.1<=b-a/\s.2.size=L/\Go.Sort.heapPop lt8 a s.1 s.2=R/\RB Y g sp s.2/\w.grownBy Y (some g),fun s=>s.1,(b-a,d1),⟨.cons rfl (.cons rfl (.cons rfl (.cons rfl (.cons rfl (.cons rfl (.cons (by dsimp only;rw [show (((b-a:Nat):Int)-1)=((b-a-1:Nat):Int) by omega];rfl) .nil)))))),rfl⟩,⟨UR _,hs1,hR1,hrX,gX⟩,?_⟩;rintro⟨k,d2⟩ Y ⟨hk,hs2,hR2,hrY,gY⟩;dsimp only at hk hs2 hR2 hrY;refine biE (fun hc=>?_) fun hc=>?_
  ·have hc:(0:Int)<=(k:Int)-1:=dT hc;obtain⟨m,rfl⟩:∃ m,k=m+1:=⟨k-1,by omega⟩;have hm:(((m+1:Nat):Int)-1)=(m:Int):=by omega
   have hi1:a<d2.size:=by omega
   have hi2:a+m<d2.size:=by omega
   have qd:RB Y.drew g sp d2:=hrY;refine DrawE.ord [17,19] [0,1,2,3,4,5,6,7,8,9,10,11,12,13,14,15,16,17,18,19] (by kernel_rfl) ⟨((a+m:Nat):Int),(ze (by first | omega | (dsimp only;omega))).trans (by first | omega | (dsimp only;omega)),((a+m:Nat):Int),(ze (by first | omega | (dsimp only;omega))).trans (by first | omega | (dsimp only;omega)),a+m,rfl,by omega,?_⟩;refine⟨_,zu qd hi2,a,rfl,by omega,?_⟩;refine⟨_,zu qd hi1,a,rfl,by omega,?_⟩;refine zN k5 rfl qd hi1 d2[a+m]! fun V1 q1 g1=>⟨a+m,rfl,by omega,?_⟩;refine zN k5 rfl q1 (by rw [Array.size_setIfInBounds];exact hi2) d2[a]! fun V2 q2 g2=>?_;have q2:RB V2 g sp (swp d2 (a) (a+m)):=q2;have z2:(swp d2 (a) (a+m)).size=d2.size:=Go.Sort.size_swp d2 (a) (a+m);have c1:=zo4 (cap:=cap) (lo:=0) (hi:=m) (first:=a) q2 (by rw [z2];exact hs2) (by omega) hl (by omega);rw [<- hm] at c1;refine cmo c1 ?_;rintro e Z ⟨rfl,qZ,gZ⟩;exact⟨(m:Int)-1,(ze (by omega)).trans (by omega),(m,Go.Sort.siftDown lt8 m a 0 (swp d2 a (a+m))),(cvE rfl rfl),⟨by show m<=_;omega,by show (Go.Sort.siftDown ..).size=L;rw [ze6 _ _ _ _ _ (UR _),z2];exact hs2,hR2,qZ,zd gY (zd (zz _ g) (zd g1 (zd g2 gZ)))⟩,Qx m⟩
  ·have hc:¬ (0:Int)<=(k:Int)-1:=dF hc;obtain rfl:k=0:=by omega
   have hR2:d2=R:=hR2;exact⟨rfl,hR2▸hrY,gY⟩
end
theorem zd8 {p:UInt8->Bool} {d:Array UInt8} {i j:Nat} (h:i<=j) (hp:p d[i]! = true):Go.Sort.scanUp p d j i=Go.Sort.scanUp p d j (i+1):=by
 rw [Go.Sort.scanUp,Gi (by rw [Un h,hp];rfl)]
theorem zbC {p:UInt8->Bool} {d:Array UInt8} {i j:Nat} (h:i<=j->p d[i]! = false):Go.Sort.scanUp p d j i=i:=by
 rw [Go.Sort.scanUp];by_cases e:i<=j
 ·rw [Gh (by rw [h e,Ud];exact Ks)]
 ·rw [Gh (by rw [Uc e];exact Ks)]
theorem zcJ {p:UInt8->Bool} {d:Array UInt8} {i j:Nat} (h:i<=j+1) (hp:p d[j+1]! = true):Go.Sort.scanDown p d i (j+1)=Go.Sort.scanDown p d i j:=by
 show (if (decide (i<=j+1)&&p d[j+1]!)=true then _ else _)=_;rw [Un h,hp];rfl
theorem zaL {p:UInt8->Bool} {d:Array UInt8} {i:Nat}:∀ {j:Nat},(i<=j->p d[j]! = false)->Go.Sort.scanDown p d i j=j
 | 0,_=>rfl
 | j+1,h=>by
  show (if (decide (i<=j+1)&&p d[j+1]!)=true then _ else _)=_;by_cases e:i<=j+1
  ·rw [h e,Ud];rfl
  ·rw [Uc e];rfl
section
variable {w:Wd} {g cap L a b pivot:Nat} {sp:List Value} {d:Array UInt8}
theorem zs7 (hr:RB w g sp d) (hL:d.size=L) (hap:a<=pivot) (hpb:pivot<b) (hb:b<=L) (hl:L<=1000000) :
  Calls PG 173 #[.slice (some ⟨g,0,none⟩) L cap,i64 a,i64 b,i64 pivot] w fun e w'=>∃ m ap d',Go.Sort.partition lt8 d a b pivot=(m,ap,d')/\e = .returned (.tuple #[i64 (m:Nat),.bool ap])/\RB w' g sp d'/\w.grownBy w' (some g):=by
 refine qk 168 [.slice (some ⟨g,0,none⟩) L cap,i64 a,i64 b,i64 pivot] (.s .p (.s .p (.s .p (.c .p (.c .p (.s .p (.s .p (.s .p (.s .p (.c (.b (.l (.b (.c .p (.c .p .p))))) .p)))))))))) Tryz.func173 ?_;have ha1:a<d.size:=by omega
 have ha2:pivot<d.size:=by omega
 have q0:RB w.drew g sp d:=hr;refine DrawE.ord [13,15] [0,1,2,3,4,5,6,7,8,9,10,11,12,13,14,15] (by kernel_rfl) ⟨pivot,rfl,by omega,?_⟩;refine⟨_,zu q0 ha2,a,rfl,by omega,?_⟩;refine⟨_,zu q0 ha1,a,rfl,by omega,?_⟩;refine zN k5 rfl q0 ha1 d[pivot]! fun V1s q1s g1s=>⟨pivot,rfl,by omega,?_⟩;refine zN k5 rfl q1s (by rw [Array.size_setIfInBounds];exact ha2) d[a]! fun V2s q2s g2s=>?_;have q2s:RB V2s g sp (swp d (a) (pivot)):=q2s;have z2s:(swp d (a) (pivot)).size=d.size:=Go.Sort.size_swp d (a) (pivot);obtain⟨d1,hd1⟩:=nm (swp d a pivot);rw [<- hd1] at q2s z2s;have g0:=zd (zz w g) (zd g1s g2s);have hz1:d1.size=L:=by rw [z2s];exact hL
 refine⟨((a+1:Nat):Int),(ze (by first | omega | (dsimp only;omega))).trans (by first | omega | (dsimp only;omega)),?_⟩;obtain⟨J0,hJ0⟩:=nm (b-1);refine⟨((J0:Nat):Int),(ze (by first | omega | (dsimp only;omega))).trans (by first | omega | (dsimp only;omega)),?_⟩;obtain⟨I0,hI0⟩:=nm (Go.Sort.scanUp (fun x=>lt8 x d1[a]!) d1 J0 (a+1));obtain⟨K0,hK0⟩:=nm (Go.Sort.scanDown (fun x => !lt8 x d1[a]!) d1 I0 J0);have hPE:Go.Sort.partition lt8 d a b pivot=if I0 > K0 then (K0,true,swp d1 K0 a) else ((Go.Sort.partLoop lt8 a (I0+1) (K0-1) (swp d1 I0 K0)).1,false,swp (Go.Sort.partLoop lt8 a (I0+1) (K0-1) (swp d1 I0 K0)).2 (Go.Sort.partLoop lt8 a (I0+1) (K0-1) (swp d1 I0 K0)).1 a):=by rw [hK0,hI0,hJ0,hd1];rfl
 refine⟨Unit,fun _=>⟨[(0,.slice (some ⟨g,0,none⟩) L cap),(1,i64 a),(2,i64 b),(3,i64 pivot),(10,i64 (I0:Nat)),(11,i64 (J0:Nat))],[]⟩,fun _ X=>(a+1<=I0/\I0<=J0+1/\(I0<=J0->lt8 d1[I0]! d1[a]! = false))/\RB X g sp d1/\w.grownBy X (some g),?_,?_⟩
 ·refine⟨Nat,fun u=>⟨[(0,.slice (some ⟨g,0,none⟩) L cap),(1,i64 a),(2,i64 b),(3,i64 pivot),(10,i64 (u:Nat)),(11,i64 (J0:Nat))],[]⟩,fun u X=>a+1<=u/\u<=J0+1/\Go.Sort.scanUp (fun x=>lt8 x d1[a]!) d1 J0 u=I0/\RB X g sp d1/\w.grownBy X (some g),fun u=>J0+1-u,(a+1),(cvE rfl rfl),⟨by omega,by omega,hI0.symm,q2s,g0⟩,?_⟩;rintro u Y ⟨hi,hij,hRs,hrY,gY⟩;have gYd:=zd gY (zz Y g);have qd:RB Y.drew g sp d1:=hrY;refine DrawE.ord [] [0,1,2,3,4,5,6,7,8,9,10,11,12,13] (by kernel_rfl) (biE (fun h2=>?_) fun h2=>?_)
  ·have h2:(u:Int)<=(J0:Int):=dT h2;have h2:u<=J0:=by omega
   have hx1:u<d1.size:=by omega
   have hx2:a<d1.size:=by omega
   refine⟨u,rfl,by omega,?_⟩;refine⟨_,zu qd hx1,a,rfl,by omega,?_⟩;refine⟨_,zu qd hx2,cmo jH ?_⟩;rintro e _ ⟨rfl,rfl⟩;refine⟨UW _ _,biE (fun h3=>?_) fun h3=>?_⟩
   ·have h3:lt8 d1[u]! d1[a]! = true:=h3;rw [zd8 (p:=fun x=>lt8 x d1[a]!) h2 h3] at hRs;exact⟨((u+1:Nat):Int),(ze (by first | omega | (dsimp only;omega))).trans (by first | omega | (dsimp only;omega)),u+1,(cvE rfl rfl),⟨by omega,by omega,hRs,qd,gYd⟩,zdc (by omega)⟩
   ·have h3:lt8 d1[u]! d1[a]! = false:=h3;rw [zbC (p:=fun x=>lt8 x d1[a]!) fun _=>h3] at hRs;subst hRs;exact⟨(),(cvE rfl rfl),⟨hi,hij,fun _=>h3⟩,qd,gYd⟩
  ·have h2:¬ (u:Int)<=(J0:Int):=dF h2;refine Ga (fun h=>by cases h) (fun _=>?_);rw [zbC (p:=fun x=>lt8 x d1[a]!) fun h=>Gj h (by omega)] at hRs;subst hRs;exact⟨(),(cvE rfl rfl),⟨hi,hij,fun h=>Gj h (by omega)⟩,qd,gYd⟩
 rintro _ X ⟨⟨hI1,hI2,hI3⟩,hrX,gX⟩;refine⟨Unit,fun _=>⟨[(0,.slice (some ⟨g,0,none⟩) L cap),(1,i64 a),(2,i64 b),(3,i64 pivot),(10,i64 (I0:Nat)),(11,i64 (K0:Nat))],[]⟩,fun _ X=>(K0<=J0/\I0<=K0+1/\(I0<=K0->(!lt8 d1[K0]! d1[a]!)=false))/\RB X g sp d1/\w.grownBy X (some g),?_,?_⟩
 ·refine⟨Nat,fun k=>⟨[(0,.slice (some ⟨g,0,none⟩) L cap),(1,i64 a),(2,i64 b),(3,i64 pivot),(10,i64 (I0:Nat)),(11,i64 (k:Nat))],[]⟩,fun k X=>k<=J0/\I0<=k+1/\Go.Sort.scanDown (fun x => !lt8 x d1[a]!) d1 I0 k=K0/\RB X g sp d1/\w.grownBy X (some g),fun k=>k,J0,(cvE rfl rfl),⟨UR _,by omega,hK0.symm,hrX,gX⟩,?_⟩;rintro k Y ⟨hi,hij,hRs,hrY,gY⟩;have gYd:=zd gY (zz Y g);have qd:RB Y.drew g sp d1:=hrY;refine DrawE.ord [] [0,1,2,3,4,5,6,7,8,9,10,11,12,13,14] (by kernel_rfl) (biE (fun h2=>?_) fun h2=>?_)
  ·have h2:(I0:Int)<=(k:Int):=dT h2;have h2:I0<=k:=by omega
   have hx1:k<d1.size:=by omega
   have hx2:a<d1.size:=by omega
   refine⟨k,rfl,by omega,?_⟩;refine⟨_,zu qd hx1,a,rfl,by omega,?_⟩;refine⟨_,zu qd hx2,cmo jH ?_⟩;rintro e _ ⟨rfl,rfl⟩;refine⟨UW _ _,biE (fun h3=>?_) fun h3=>?_⟩
   ·have h3:(!lt8 d1[k]! d1[a]!)=true:=h3;obtain⟨m,rfl⟩:∃ m,k=m+1:=⟨k-1,by omega⟩;rw [zcJ (p:=fun x => !lt8 x d1[a]!) h2 h3] at hRs;exact⟨((m:Nat):Int),(ze (by first | omega | (dsimp only;omega))).trans (by first | omega | (dsimp only;omega)),m,(cvE rfl rfl),⟨by omega,by omega,hRs,qd,gYd⟩,Qx m⟩
   ·have h3:(!lt8 d1[k]! d1[a]!)=false:=h3;rw [zaL (p:=fun x => !lt8 x d1[a]!) fun _=>h3] at hRs;subst hRs;exact⟨(),(cvE rfl rfl),⟨hi,hij,fun _=>h3⟩,qd,gYd⟩
  ·have h2:¬ (I0:Int)<=(k:Int):=dF h2;refine Ga (fun h=>by cases h) (fun _=>?_);rw [zaL (p:=fun x => !lt8 x d1[a]!) fun h=>Gj h (by omega)] at hRs;subst hRs;exact⟨(),(cvE rfl rfl),⟨hi,hij,fun h=>Gj h (by omega)⟩,qd,gYd⟩
 rintro _ Y ⟨⟨hK1,hK2,hK3⟩,hrY,gY⟩;refine biE (fun hc=>?_) fun hc=>?_
 ·have hc:(K0:Int)<(I0:Int):=dT hc;rw [Gi (by omega)] at hPE;have hx1:K0<d1.size:=by omega
  have hx2:a<d1.size:=by omega
  have qd:RB Y.drew g sp d1:=hrY;refine DrawE.ord [13,15] [0,1,2,3,4,5,6,7,8,9,10,11,12,13,14,15] (by kernel_rfl) ⟨a,rfl,by omega,?_⟩;refine⟨_,zu qd hx2,K0,rfl,by omega,?_⟩;refine⟨_,zu qd hx1,K0,rfl,by omega,?_⟩;refine zN k5 rfl qd hx1 d1[a]! fun V1 q1 g1=>⟨a,rfl,by omega,?_⟩;refine zN k5 rfl q1 (by rw [Array.size_setIfInBounds];exact hx2) d1[K0]! fun V2 q2 g2=>?_;have q2:RB V2 g sp (swp d1 (K0) (a)):=q2;have z2:(swp d1 (K0) (a)).size=d1.size:=Go.Sort.size_swp d1 (K0) (a);exact⟨K0,true,_,hPE,rfl,q2,zd gY (zd (zz _ g) (zd g1 g2))⟩
 ·have hc:¬ (K0:Int)<(I0:Int):=dF hc;rw [Gh (by omega)] at hPE;have hne0:I0≠K0:=fun h=>by
   have e1:=hI3 (by omega);have e2:=hK3 (by omega);rw [h] at e1;rw [e1] at e2
   cases e2
  have hx1:I0<d1.size:=by omega
  have hx2:K0<d1.size:=by omega
  have qd:RB Y.drew g sp d1:=hrY;refine DrawE.ord [13,15] [0,1,2,3,4,5,6,7,8,9,10,11,12,13,14,15] (by kernel_rfl) ⟨K0,rfl,by omega,?_⟩;refine⟨_,zu qd hx2,I0,rfl,by omega,?_⟩;refine⟨_,zu qd hx1,I0,rfl,by omega,?_⟩;refine zN k5 rfl qd hx1 d1[K0]! fun V1t q1t g1t=>⟨K0,rfl,by omega,?_⟩;refine zN k5 rfl q1t (by rw [Array.size_setIfInBounds];exact hx2) d1[I0]! fun V2t q2t g2t=>?_;have q2t:RB V2t g sp (swp d1 (I0) (K0)):=q2t;have z2t:(swp d1 (I0) (K0)).size=d1.size:=Go.Sort.size_swp d1 (I0) (K0);refine⟨((I0+1:Nat):Int),(ze (by first | omega | (dsimp only;omega))).trans (by first | omega | (dsimp only;omega)),((K0-1:Nat):Int),(ze (by first | omega | (dsimp only;omega))).trans (by first | omega | (dsimp only;omega)),?_⟩;obtain⟨d2,hd2⟩:=nm (swp d1 I0 K0);rw [<- hd2] at hPE q2t z2t;have gt0:=zd gY (zd (zz _ g) (zd g1t g2t));have hz2:d2.size=L:=by rw [z2t];exact hz1
  obtain⟨R2,hR2⟩:=nm (Go.Sort.partLoop lt8 a (I0+1) (K0-1) d2);refine⟨Unit,fun _=>⟨[(0,.slice (some ⟨g,0,none⟩) L cap),(1,i64 a),(2,i64 b),(3,i64 pivot),(11,i64 (R2.1:Nat))],[]⟩,fun _ X=>(a<=R2.1/\R2.1<b)/\R2.2.size=L/\RB X g sp R2.2/\w.grownBy X (some g),?_,?_⟩
  ·refine⟨Nat×Nat×Array UInt8,fun s=>⟨[(0,.slice (some ⟨g,0,none⟩) L cap),(1,i64 a),(2,i64 b),(3,i64 pivot),(10,i64 (s.1:Nat)),(11,i64 (s.2.1:Nat))],[]⟩,fun s X=>(a+1<=s.1/\s.1<=s.2.1+1/\s.2.1<b)/\s.2.2.size=L/\Go.Sort.partLoop lt8 a s.1 s.2.1 s.2.2=R2/\RB X g sp s.2.2/\w.grownBy X (some g),fun s=>s.2.1+1-s.1,((I0+1),(K0-1),d2),(cvE rfl rfl),⟨⟨by show a+1<=(I0+1);omega,by show (I0+1)<=(K0-1)+1;omega,by show (K0-1)<b;omega⟩,hz2,hR2.symm,q2t,gt0⟩,?_⟩;rintro⟨i,j,e⟩ X ⟨⟨hi,hij,hjb⟩,hze,hR,hrX,gX⟩;dsimp only at hi hij hjb hze hR hrX;rw [Go.Sort.partLoop_eq] at hR;obtain⟨I,hI⟩:=nm (Go.Sort.scanUp (fun x=>lt8 x e[a]!) e j i);rw [<- hI] at hR;obtain⟨J,hJ⟩:=nm (Go.Sort.scanDown (fun x => !lt8 x e[a]!) e I j);rw [<- hJ] at hR;refine⟨Unit,fun _=>⟨[(0,.slice (some ⟨g,0,none⟩) L cap),(1,i64 a),(2,i64 b),(3,i64 pivot),(10,i64 (I:Nat)),(11,i64 (j:Nat))],[]⟩,fun _ X=>(i<=I/\I<=j+1/\(I<=j->lt8 e[I]! e[a]! = false))/\RB X g sp e/\w.grownBy X (some g),?_,?_⟩
   ·refine⟨Nat,fun u=>⟨[(0,.slice (some ⟨g,0,none⟩) L cap),(1,i64 a),(2,i64 b),(3,i64 pivot),(10,i64 (u:Nat)),(11,i64 (j:Nat))],[]⟩,fun u X=>i<=u/\u<=j+1/\Go.Sort.scanUp (fun x=>lt8 x e[a]!) e j u=I/\RB X g sp e/\w.grownBy X (some g),fun u=>j+1-u,i,(cvE rfl rfl),⟨by omega,by omega,hI.symm,hrX,gX⟩,?_⟩;rintro u Y ⟨hi,hij,hRs,hrY,gY⟩;have gYd:=zd gY (zz Y g);have qd:RB Y.drew g sp e:=hrY;refine DrawE.ord [] [0,1,2,3,4,5,6,7,8,9,10,11,12,13] (by kernel_rfl) (biE (fun h2=>?_) fun h2=>?_)
    ·have h2:(u:Int)<=(j:Int):=dT h2;have h2:u<=j:=(by omega);have hx1:u<e.size:=(by omega);have hx2:a<e.size:=(by omega);refine⟨u,rfl,by omega,?_⟩;refine⟨_,zu qd hx1,a,rfl,by omega,?_⟩;refine⟨_,zu qd hx2,cmo jH ?_⟩;rintro e _ ⟨rfl,rfl⟩;refine⟨UW _ _,biE (fun h3=>?_) fun h3=>?_⟩
     ·have h3:lt8 e[u]! e[a]! = true:=h3;rw [zd8 (p:=fun x=>lt8 x e[a]!) h2 h3] at hRs;exact⟨((u+1:Nat):Int),(ze (by first | omega | (dsimp only;omega))).trans (by first | omega | (dsimp only;omega)),u+1,(cvE rfl rfl),⟨by omega,by omega,hRs,qd,gYd⟩,zdc (by omega)⟩
     ·have h3:lt8 e[u]! e[a]! = false:=h3;rw [zbC (p:=fun x=>lt8 x e[a]!) fun _=>h3] at hRs;subst hRs;exact⟨(),(cvE rfl rfl),⟨hi,hij,fun _=>h3⟩,qd,gYd⟩
    ·have h2:¬ (u:Int)<=(j:Int):=dF h2;refine Ga (fun h=>by cases h) (fun _=>?_);rw [zbC (p:=fun x=>lt8 x e[a]!) fun h=>Gj h (by omega)] at hRs;subst hRs;exact⟨(),(cvE rfl rfl),⟨hi,hij,fun h=>Gj h (by omega)⟩,qd,gYd⟩
   rintro _ Y ⟨⟨hI1,hI2,hI3⟩,hrY,gY⟩;refine⟨Unit,fun _=>⟨[(0,.slice (some ⟨g,0,none⟩) L cap),(1,i64 a),(2,i64 b),(3,i64 pivot),(10,i64 (I:Nat)),(11,i64 (J:Nat))],[]⟩,fun _ X=>(J<=j/\I<=J+1/\(I<=J->(!lt8 e[J]! e[a]!)=false))/\RB X g sp e/\w.grownBy X (some g),?_,?_⟩
   ·refine⟨Nat,fun k=>⟨[(0,.slice (some ⟨g,0,none⟩) L cap),(1,i64 a),(2,i64 b),(3,i64 pivot),(10,i64 (I:Nat)),(11,i64 (k:Nat))],[]⟩,fun k X=>k<=j/\I<=k+1/\Go.Sort.scanDown (fun x => !lt8 x e[a]!) e I k=J/\RB X g sp e/\w.grownBy X (some g),fun k=>k,j,(cvE rfl rfl),⟨UR _,by omega,hJ.symm,hrY,gY⟩,?_⟩;rintro k Y ⟨hi,hij,hRs,hrY,gY⟩;have gYd:=zd gY (zz Y g);have qd:RB Y.drew g sp e:=hrY;refine DrawE.ord [] [0,1,2,3,4,5,6,7,8,9,10,11,12,13,14] (by kernel_rfl) (biE (fun h2=>?_) fun h2=>?_)
    ·have h2:(I:Int)<=(k:Int):=dT h2;have h2:I<=k:=(by omega);have hx1:k<e.size:=(by omega);have hx2:a<e.size:=(by omega);refine⟨k,rfl,by omega,?_⟩;refine⟨_,zu qd hx1,a,rfl,by omega,?_⟩;refine⟨_,zu qd hx2,cmo jH ?_⟩;rintro e _ ⟨rfl,rfl⟩;refine⟨UW _ _,biE (fun h3=>?_) fun h3=>?_⟩
     ·have h3:(!lt8 e[k]! e[a]!)=true:=h3;obtain⟨m,rfl⟩:∃ m,k=m+1:=⟨k-1,by omega⟩;rw [zcJ (p:=fun x => !lt8 x e[a]!) h2 h3] at hRs;exact⟨((m:Nat):Int),(ze (by first | omega | (dsimp only;omega))).trans (by first | omega | (dsimp only;omega)),m,(cvE rfl rfl),⟨by omega,by omega,hRs,qd,gYd⟩,Qx m⟩
     ·have h3:(!lt8 e[k]! e[a]!)=false:=h3;rw [zaL (p:=fun x => !lt8 x e[a]!) fun _=>h3] at hRs;subst hRs;exact⟨(),(cvE rfl rfl),⟨hi,hij,fun _=>h3⟩,qd,gYd⟩
    ·have h2:¬ (I:Int)<=(k:Int):=dF h2;refine Ga (fun h=>by cases h) (fun _=>?_);rw [zaL (p:=fun x => !lt8 x e[a]!) fun h=>Gj h (by omega)] at hRs;subst hRs;exact⟨(),(cvE rfl rfl),⟨hi,hij,fun h=>Gj h (by omega)⟩,qd,gYd⟩
   rintro _ Z ⟨⟨hJ1,hJ2,hJ3⟩,hrZ,gZ⟩;refine biE (fun hc=>?_) fun hc=>?_
   ·have hc:(J:Int)<(I:Int):=dT hc;rw [Gi (by omega)] at hR;subst hR;exact⟨(),(cvE rfl rfl),⟨by show a<=J;omega,by show J<b;omega⟩,hze,hrZ,gZ⟩
   ·have hc:¬ (J:Int)<(I:Int):=dF hc;rw [Gh (by omega)] at hR;have hne:I≠J:=fun h=>by
     have e1:=hI3 (by omega);have e2:=hJ3 (by omega);rw [h] at e1;rw [e1] at e2
     cases e2
    have hx1:I<e.size:=(by omega);have hx2:J<e.size:=(by omega);have qe:RB Z.drew g sp e:=hrZ;refine DrawE.ord [13,15] [0,1,2,3,4,5,6,7,8,9,10,11,12,13,14,15] (by kernel_rfl) ⟨J,rfl,by omega,?_⟩;refine⟨_,zu qe hx2,I,rfl,by omega,?_⟩;refine⟨_,zu qe hx1,I,rfl,by omega,?_⟩;refine zN k5 rfl qe hx1 e[J]! fun V1 q1 g1=>⟨J,rfl,by omega,?_⟩;refine zN k5 rfl q1 (by rw [Array.size_setIfInBounds];exact hx2) e[I]! fun V2 q2 g2=>?_;have q2:RB V2 g sp (swp e (I) (J)):=q2;have z2:(swp e (I) (J)).size=e.size:=Go.Sort.size_swp e (I) (J);exact⟨((I+1:Nat):Int),(ze (by first | omega | (dsimp only;omega))).trans (by first | omega | (dsimp only;omega)),((J-1:Nat):Int),(ze (by first | omega | (dsimp only;omega))).trans (by first | omega | (dsimp only;omega)),(I+1,J-1,swp e I J),(cvE rfl rfl),⟨⟨by show a+1<=I+1;omega,by show I+1<=J-1+1;omega,by show J-1<b;omega⟩,by show (swp e I J).size=L;rw [z2];exact hze,hR,q2,zd gZ (zd (zz _ g) (zd g1 g2))⟩,by show J-1+1-(I+1)<j+1-i;omega⟩
  rintro _ X2 ⟨⟨hm1,hm2⟩,hzR,hrX2,gX2⟩;rw [<- hR2] at hPE;have hy1:R2.1<R2.2.size:=by omega
  have hy2:a<R2.2.size:=by omega
  have qf:RB X2.drew g sp R2.2:=hrX2;refine DrawE.ord [13,15] [0,1,2,3,4,5,6,7,8,9,10,11,12,13,14,15] (by kernel_rfl) ⟨a,rfl,by omega,?_⟩;refine⟨_,zu qf hy2,R2.1,rfl,by omega,?_⟩;refine⟨_,zu qf hy1,R2.1,rfl,by omega,?_⟩;refine zN k5 rfl qf hy1 R2.2[a]! fun V1u q1u g1u=>⟨a,rfl,by omega,?_⟩;refine zN k5 rfl q1u (by rw [Array.size_setIfInBounds];exact hy2) R2.2[R2.1]! fun V2u q2u g2u=>?_;have q2u:RB V2u g sp (swp R2.2 (R2.1) (a)):=q2u;have z2u:(swp R2.2 (R2.1) (a)).size=R2.2.size:=Go.Sort.size_swp R2.2 (R2.1) (a);exact⟨R2.1,false,_,hPE,rfl,q2u,zd gX2 (zd (zz _ g) (zd g1u g2u))⟩
theorem zpp (hr:RB w g sp d) (hL:d.size=L) (hap:a<=pivot) (hpb:pivot<b) (hb:b<=L) (hl:L<=1000000) :
  Calls PG 172 #[.slice (some ⟨g,0,none⟩) L cap,i64 a,i64 b,i64 pivot] w fun e w'=>∃ m d',Go.Sort.partitionEqual lt8 d a b pivot=(m,d')/\e = .returned (i64 (m:Nat))/\RB w' g sp d'/\w.grownBy w' (some g):=by
 refine qk 84 [.slice (some ⟨g,0,none⟩) L cap,i64 a,i64 b,i64 pivot] (.s .p (.s .p (.s .p (.c (.b (.l (.b (.c .p (.c .p .p))))) .p)))) Tryz.func172 ?_;have ha1:a<d.size:=by omega
 have ha2:pivot<d.size:=by omega
 have q0:RB w.drew g sp d:=hr;refine DrawE.ord [13,15] [0,1,2,3,4,5,6,7,8,9,10,11,12,13,14,15] (by kernel_rfl) ⟨pivot,rfl,by omega,?_⟩;refine⟨_,zu q0 ha2,a,rfl,by omega,?_⟩;refine⟨_,zu q0 ha1,a,rfl,by omega,?_⟩;refine zN k5 rfl q0 ha1 d[pivot]! fun V1s q1s g1s=>⟨pivot,rfl,by omega,?_⟩;refine zN k5 rfl q1s (by rw [Array.size_setIfInBounds];exact ha2) d[a]! fun V2s q2s g2s=>?_;have q2s:RB V2s g sp (swp d (a) (pivot)):=q2s;have z2s:(swp d (a) (pivot)).size=d.size:=Go.Sort.size_swp d (a) (pivot);obtain⟨d1,hd1⟩:=nm (swp d a pivot);rw [<- hd1] at q2s z2s;have g0:=zd (zz w g) (zd g1s g2s);have hz1:d1.size=L:=by rw [z2s];exact hL
 refine⟨((a+1:Nat):Int),(ze (by first | omega | (dsimp only;omega))).trans (by first | omega | (dsimp only;omega)),?_⟩;obtain⟨J0,hJ0⟩:=nm (b-1);refine⟨((J0:Nat):Int),(ze (by first | omega | (dsimp only;omega))).trans (by first | omega | (dsimp only;omega)),?_⟩;have hPE:Go.Sort.partitionEqual lt8 d a b pivot=Go.Sort.partEqLoop lt8 a (a+1) J0 d1:=by rw [hJ0,hd1];rfl
 obtain⟨R2,hR2⟩:=nm (Go.Sort.partEqLoop lt8 a (a+1) J0 d1);refine⟨Unit,fun _=>⟨[(0,.slice (some ⟨g,0,none⟩) L cap),(1,i64 a),(2,i64 b),(3,i64 pivot),(9,i64 (R2.1:Nat))],[]⟩,fun _ X=>(a<=R2.1/\R2.1<=b)/\R2.2.size=L/\RB X g sp R2.2/\w.grownBy X (some g),?_,?_⟩
 ·refine⟨Nat×Nat×Array UInt8,fun s=>⟨[(0,.slice (some ⟨g,0,none⟩) L cap),(1,i64 a),(2,i64 b),(3,i64 pivot),(9,i64 (s.1:Nat)),(10,i64 (s.2.1:Nat))],[]⟩,fun s X=>(a+1<=s.1/\s.1<=s.2.1+1/\s.2.1<b)/\s.2.2.size=L/\Go.Sort.partEqLoop lt8 a s.1 s.2.1 s.2.2=R2/\RB X g sp s.2.2/\w.grownBy X (some g),fun s=>s.2.1+1-s.1,((a+1),J0,d1),(cvE rfl rfl),⟨⟨by show a+1<=(a+1);omega,by show (a+1)<=J0+1;omega,by show J0<b;omega⟩,hz1,hR2.symm,q2s,g0⟩,?_⟩;rintro⟨i,j,e⟩ X ⟨⟨hi,hij,hjb⟩,hze,hR,hrX,gX⟩;dsimp only at hi hij hjb hze hR hrX;rw [Go.Sort.partEqLoop_eq] at hR;obtain⟨I,hI⟩:=nm (Go.Sort.scanUp (fun x => !lt8 e[a]! x) e j i);rw [<- hI] at hR;obtain⟨J,hJ⟩:=nm (Go.Sort.scanDown (fun x=>lt8 e[a]! x) e I j);rw [<- hJ] at hR;refine⟨Unit,fun _=>⟨[(0,.slice (some ⟨g,0,none⟩) L cap),(1,i64 a),(2,i64 b),(3,i64 pivot),(9,i64 (I:Nat)),(10,i64 (j:Nat))],[]⟩,fun _ X=>(i<=I/\I<=j+1/\(I<=j->(!lt8 e[a]! e[I]!)=false))/\RB X g sp e/\w.grownBy X (some g),?_,?_⟩
  ·refine⟨Nat,fun u=>⟨[(0,.slice (some ⟨g,0,none⟩) L cap),(1,i64 a),(2,i64 b),(3,i64 pivot),(9,i64 (u:Nat)),(10,i64 (j:Nat))],[]⟩,fun u X=>i<=u/\u<=j+1/\Go.Sort.scanUp (fun x => !lt8 e[a]! x) e j u=I/\RB X g sp e/\w.grownBy X (some g),fun u=>j+1-u,i,(cvE rfl rfl),⟨by omega,by omega,hI.symm,hrX,gX⟩,?_⟩;rintro u Y ⟨hi,hij,hRs,hrY,gY⟩;have gYd:=zd gY (zz Y g);have qd:RB Y.drew g sp e:=hrY;refine DrawE.ord [] [0,1,2,3,4,5,6,7,8,9,10,11,12,13,14] (by kernel_rfl) (biE (fun h2=>?_) fun h2=>?_)
   ·have h2:(u:Int)<=(j:Int):=dT h2;have h2:u<=j:=(by omega);have hx1:u<e.size:=(by omega);have hx2:a<e.size:=(by omega);refine⟨a,rfl,by omega,?_⟩;refine⟨_,zu qd hx2,u,rfl,by omega,?_⟩;refine⟨_,zu qd hx1,cmo jH ?_⟩;rintro e _ ⟨rfl,rfl⟩;refine⟨UW _ _,biE (fun h3=>?_) fun h3=>?_⟩
    ·have h3:(!lt8 e[a]! e[u]!)=true:=h3;rw [zd8 (p:=fun x => !lt8 e[a]! x) h2 h3] at hRs;exact⟨((u+1:Nat):Int),(ze (by first | omega | (dsimp only;omega))).trans (by first | omega | (dsimp only;omega)),u+1,(cvE rfl rfl),⟨by omega,by omega,hRs,qd,gYd⟩,zdc (by omega)⟩
    ·have h3:(!lt8 e[a]! e[u]!)=false:=h3;rw [zbC (p:=fun x => !lt8 e[a]! x) fun _=>h3] at hRs;subst hRs;exact⟨(),(cvE rfl rfl),⟨hi,hij,fun _=>h3⟩,qd,gYd⟩
   ·have h2:¬ (u:Int)<=(j:Int):=dF h2;refine Ga (fun h=>by cases h) (fun _=>?_);rw [zbC (p:=fun x => !lt8 e[a]! x) fun h=>Gj h (by omega)] at hRs;subst hRs;exact⟨(),(cvE rfl rfl),⟨hi,hij,fun h=>Gj h (by omega)⟩,qd,gYd⟩
  rintro _ Y ⟨⟨hI1,hI2,hI3⟩,hrY,gY⟩;refine⟨Unit,fun _=>⟨[(0,.slice (some ⟨g,0,none⟩) L cap),(1,i64 a),(2,i64 b),(3,i64 pivot),(9,i64 (I:Nat)),(10,i64 (J:Nat))],[]⟩,fun _ X=>(J<=j/\I<=J+1/\(I<=J->lt8 e[a]! e[J]! = false))/\RB X g sp e/\w.grownBy X (some g),?_,?_⟩
  ·refine⟨Nat,fun k=>⟨[(0,.slice (some ⟨g,0,none⟩) L cap),(1,i64 a),(2,i64 b),(3,i64 pivot),(9,i64 (I:Nat)),(10,i64 (k:Nat))],[]⟩,fun k X=>k<=j/\I<=k+1/\Go.Sort.scanDown (fun x=>lt8 e[a]! x) e I k=J/\RB X g sp e/\w.grownBy X (some g),fun k=>k,j,(cvE rfl rfl),⟨UR _,by omega,hJ.symm,hrY,gY⟩,?_⟩;rintro k Y ⟨hi,hij,hRs,hrY,gY⟩;have gYd:=zd gY (zz Y g);have qd:RB Y.drew g sp e:=hrY;refine DrawE.ord [] [0,1,2,3,4,5,6,7,8,9,10,11,12,13] (by kernel_rfl) (biE (fun h2=>?_) fun h2=>?_)
   ·have h2:(I:Int)<=(k:Int):=dT h2;have h2:I<=k:=(by omega);have hx1:k<e.size:=(by omega);have hx2:a<e.size:=(by omega);refine⟨a,rfl,by omega,?_⟩;refine⟨_,zu qd hx2,k,rfl,by omega,?_⟩;refine⟨_,zu qd hx1,cmo jH ?_⟩;rintro e _ ⟨rfl,rfl⟩;refine⟨UW _ _,biE (fun h3=>?_) fun h3=>?_⟩
    ·have h3:lt8 e[a]! e[k]! = true:=h3;obtain⟨m,rfl⟩:∃ m,k=m+1:=⟨k-1,by omega⟩;rw [zcJ (p:=fun x=>lt8 e[a]! x) h2 h3] at hRs;exact⟨((m:Nat):Int),(ze (by first | omega | (dsimp only;omega))).trans (by first | omega | (dsimp only;omega)),m,(cvE rfl rfl),⟨by omega,by omega,hRs,qd,gYd⟩,Qx m⟩
    ·have h3:lt8 e[a]! e[k]! = false:=h3;rw [zaL (p:=fun x=>lt8 e[a]! x) fun _=>h3] at hRs;subst hRs;exact⟨(),(cvE rfl rfl),⟨hi,hij,fun _=>h3⟩,qd,gYd⟩
   ·have h2:¬ (I:Int)<=(k:Int):=dF h2;refine Ga (fun h=>by cases h) (fun _=>?_);rw [zaL (p:=fun x=>lt8 e[a]! x) fun h=>Gj h (by omega)] at hRs;subst hRs;exact⟨(),(cvE rfl rfl),⟨hi,hij,fun h=>Gj h (by omega)⟩,qd,gYd⟩
  rintro _ Z ⟨⟨hJ1,hJ2,hJ3⟩,hrZ,gZ⟩;refine biE (fun hc=>?_) fun hc=>?_
  ·have hc:(J:Int)<(I:Int):=dT hc;rw [Gi (by omega)] at hR;subst hR;exact⟨(),(cvE rfl rfl),⟨by show a<=I;omega,by show I<=b;omega⟩,hze,hrZ,gZ⟩
  ·have hc:¬ (J:Int)<(I:Int):=dF hc;rw [Gh (by omega)] at hR;have hne:I≠J:=fun h=>by
    have e1:=hI3 (by omega);have e2:=hJ3 (by omega);rw [h] at e1;rw [e2] at e1
    cases e1
   have hx1:I<e.size:=by omega
   have hx2:J<e.size:=by omega
   have qe:RB Z.drew g sp e:=hrZ;refine DrawE.ord [13,15] [0,1,2,3,4,5,6,7,8,9,10,11,12,13,14,15] (by kernel_rfl) ⟨J,rfl,by omega,?_⟩;refine⟨_,zu qe hx2,I,rfl,by omega,?_⟩;refine⟨_,zu qe hx1,I,rfl,by omega,?_⟩;refine zN k5 rfl qe hx1 e[J]! fun V1 q1 g1=>⟨J,rfl,by omega,?_⟩;refine zN k5 rfl q1 (by rw [Array.size_setIfInBounds];exact hx2) e[I]! fun V2 q2 g2=>?_;have q2:RB V2 g sp (swp e (I) (J)):=q2;have z2:(swp e (I) (J)).size=e.size:=Go.Sort.size_swp e (I) (J);exact⟨((I+1:Nat):Int),(ze (by first | omega | (dsimp only;omega))).trans (by first | omega | (dsimp only;omega)),((J-1:Nat):Int),(ze (by first | omega | (dsimp only;omega))).trans (by first | omega | (dsimp only;omega)),(I+1,J-1,swp e I J),(cvE rfl rfl),⟨⟨by show a+1<=I+1;omega,by show I+1<=J-1+1;omega,by show J-1<b;omega⟩,by show (swp e I J).size=L;rw [z2];exact hze,hR,q2,zd gZ (zd (zz _ g) (zd g1 g2))⟩,by show J-1+1-(I+1)<j+1-i;omega⟩
 rintro _ X ⟨⟨hm1,hm2⟩,hzR,hrX,gX⟩;exact⟨R2.1,R2.2,hPE.trans hR2.symm,rfl,hrX,gX⟩
end
theorem znO {d:Array UInt8} {b i:Nat} (h:i<b) (hp:lt8 d[i]! d[i-1]! = false):Go.Sort.scanSorted lt8 d b i=Go.Sort.scanSorted lt8 d b (i+1):=by
 rw [Go.Sort.scanSorted,Gi (by rw [Un h,hp];rfl)]
theorem zjW {d:Array UInt8} {b i:Nat} (h:i<b->lt8 d[i]! d[i-1]! = true):Go.Sort.scanSorted lt8 d b i=i:=by
 rw [Go.Sort.scanSorted];by_cases e:i<b
 ·rw [Gh (by rw [h e,Ur,Ud];exact Ks)]
 ·rw [Gh (by rw [Uc e];exact Ks)]
section
variable {w:Wd} {g cap L a b:Nat} {sp:List Value} {d:Array UInt8}
theorem zsW (hr:RB w g sp d) (hL:d.size=L) (hab:a<b) (hb:b<=L) (hl:L<=1000000) :
  Calls PG 169 #[.slice (some ⟨g,0,none⟩) L cap,i64 a,i64 b] w fun e w'=>e = .returned (.tuple #[])/\RB w' g sp (Go.Sort.reverseRange d a b)/\w.grownBy w' (some g):=by
 refine zF 32 [.slice (some ⟨g,0,none⟩) L cap,i64 a,i64 b] Tryz.func169 ?_;obtain⟨R,hR⟩:=nm (Go.Sort.reverseRange d a b);rw [<- hR];refine⟨((b-1:Nat):Int),(ze (by first | omega | (dsimp only;omega))).trans (by first | omega | (dsimp only;omega)),Nat×Nat×Array UInt8,fun s=>⟨[(0,.slice (some ⟨g,0,none⟩) L cap),(1,i64 a),(2,i64 b),(6,i64 (s.1:Nat)),(7,i64 (s.2.1:Nat))],[]⟩,fun s X=>s.2.1<b/\s.2.2.size=L/\Go.Sort.reverseLoop s.1 s.2.1 s.2.2=R/\RB X g sp s.2.2/\w.grownBy X (some g),fun s=>s.2.1-s.1,(a,b-1,d),(cvE rfl rfl),⟨by show b-1<b;omega,hL,hR.symm,hr,qg _ _⟩,?_⟩;rintro⟨i,j,e⟩ X ⟨hj,hze,hR1,hrX,gX⟩;dsimp only at hj hze hR1 hrX;rw [Go.Sort.reverseLoop] at hR1;refine biE (fun hc=>?_) fun hc=>?_
 ·have hc:(i:Int)<(j:Int):=dT hc;rw [Gi (by omega)] at hR1;have hx1:i<e.size:=by omega
  have hx2:j<e.size:=by omega
  have qd:RB X.drew g sp e:=hrX;refine DrawE.ord [13,15] [0,1,2,3,4,5,6,7,8,9,10,11,12,13,14,15] (by kernel_rfl) ⟨j,rfl,by omega,?_⟩;refine⟨_,zu qd hx2,i,rfl,by omega,?_⟩;refine⟨_,zu qd hx1,i,rfl,by omega,?_⟩;refine zN k5 rfl qd hx1 e[j]! fun V1 q1 g1=>⟨j,rfl,by omega,?_⟩;refine zN k5 rfl q1 (by rw [Array.size_setIfInBounds];exact hx2) e[i]! fun V2 q2 g2=>?_;have q2:RB V2 g sp (swp e (i) (j)):=q2;have z2:(swp e (i) (j)).size=e.size:=Go.Sort.size_swp e (i) (j);exact⟨((i+1:Nat):Int),(ze (by first | omega | (dsimp only;omega))).trans (by first | omega | (dsimp only;omega)),((j-1:Nat):Int),(ze (by first | omega | (dsimp only;omega))).trans (by first | omega | (dsimp only;omega)),(i+1,j-1,swp e i j),(cvE rfl rfl),⟨by show j-1<b;omega,by show (swp e i j).size=L;rw [z2];exact hze,hR1,q2,zd gX (zd (zz _ g) (zd g1 g2))⟩,by show j-1-(i+1)<j-i;omega⟩
 ·have hc:¬ (i:Int)<(j:Int):=dF hc;rw [Gh (by omega)] at hR1;exact⟨rfl,hR1▸hrX,gX⟩
theorem zn4 (hr:RB w g sp d) (hL:d.size=L) (hab:a<b) (hb:b<=L) (hl:L<=1000000) :
  Calls PG 170 #[.slice (some ⟨g,0,none⟩) L cap,i64 a,i64 b] w fun e w'=>∃ d' ok,Go.Sort.partialInsertionSort lt8 d a b=(d',ok)/\e = .returned (.bool ok)/\RB w' g sp d'/\w.grownBy w' (some g):=by
 refine qk 133 [.slice (some ⟨g,0,none⟩) L cap,i64 a,i64 b] (.s .p (.s .p (.s (.s .p (.b (.l (.s .p (.c (.b (.c .p (.s .p (.s .p (.s .p (.c .p .p)))))) .p))))) .p))) Tryz.func170 ?_;obtain⟨R,hR⟩:=nm (Go.Sort.partialInsertionSort lt8 d a b);have fin:∀ Z d' ok,(d',ok)=R->RB Z g sp d'->w.grownBy Z (some g)->∃ d'' ok',Go.Sort.partialInsertionSort lt8 d a b=(d'',ok')/\Ending.returned (.bool ok) = .returned (.bool ok')/\RB Z g sp d''/\w.grownBy Z (some g):=fun Z d' ok e q gz=>⟨d',ok,by rw [<- hR,<- e],rfl,q,gz⟩;refine⟨((a+1:Nat):Int),(ze (by first | omega | (dsimp only;omega))).trans (by first | omega | (dsimp only;omega)),Nat×Nat×Array UInt8,fun s=>⟨[(0,.slice (some ⟨g,0,none⟩) L cap),(1,i64 a),(2,i64 b),(7,i64 (s.2.1:Nat)),(8,i64 (s.1:Nat))],[]⟩,fun s X=>(s.1<=5/\a+1<=s.2.1/\s.2.1<=b)/\s.2.2.size=L/\Go.Sort.partialIns lt8 a b (5-s.1) s.2.1 s.2.2=R/\RB X g sp s.2.2/\w.grownBy X (some g),fun s=>5-s.1,(0,a+1,d),(cvE rfl rfl),⟨⟨by show 0<=5;decide,UR _,by show a+1<=b;omega⟩,hL,hR.symm,hr,qg _ _⟩,?_⟩;rintro⟨n,i,e⟩ X ⟨⟨hn,hi,hib⟩,hze,hR1,hrX,gX⟩;dsimp only at hn hi hib hze hR1 hrX;refine biE (fun hc=>?_) fun hc=>?_
 ·have hc:(n:Int)<5:=dT hc;have hn5:5-n=(5-(n+1))+1:=by omega
  rw [hn5] at hR1;obtain⟨I,hI⟩:=nm (Go.Sort.scanSorted lt8 e b i);have hR1:(if I=b then (e,true) else if b-a<50 then (e,false) else Go.Sort.partialIns lt8 a b (5-(n+1)) I (if b-I ≥ 2 then Go.Sort.shiftUp lt8 b (I+1) (if I-a ≥ 2 then Go.Sort.shiftDown lt8 (I-1) (swp e I (I-1)) else swp e I (I-1)) else (if I-a ≥ 2 then Go.Sort.shiftDown lt8 (I-1) (swp e I (I-1)) else swp e I (I-1))))=R:=by rw [hI];exact hR1
  obtain⟨D1,hD1⟩:=nm (swp e I (I-1));obtain⟨D2,hD2⟩:=nm ((if I-a ≥ 2 then Go.Sort.shiftDown lt8 (I-1) D1 else D1));obtain⟨D3,hD3⟩:=nm ((if b-I ≥ 2 then Go.Sort.shiftUp lt8 b (I+1) D2 else D2));rw [<- hD1,<- hD2,<- hD3] at hR1;refine⟨Unit,fun _=>⟨[(0,.slice (some ⟨g,0,none⟩) L cap),(1,i64 a),(2,i64 b),(7,i64 (I:Nat)),(8,i64 (n:Nat))],[]⟩,fun _ Y=>(a+1<=I/\I<=b)/\D3.size=L/\Go.Sort.partialIns lt8 a b (5-(n+1)) I D3=R/\RB Y g sp D3/\w.grownBy Y (some g),?_,?_⟩
  ·refine⟨Unit,fun _=>⟨[(0,.slice (some ⟨g,0,none⟩) L cap),(1,i64 a),(2,i64 b),(7,i64 (I:Nat)),(8,i64 (n:Nat))],[]⟩,fun _ Y=>(a+1<=I/\I<=b)/\RB Y g sp e/\w.grownBy Y (some g),?_,?_⟩
   ·refine⟨Nat,fun k=>⟨[(0,.slice (some ⟨g,0,none⟩) L cap),(1,i64 a),(2,i64 b),(7,i64 (k:Nat)),(8,i64 (n:Nat))],[]⟩,fun k Y=>(a+1<=k/\k<=b)/\Go.Sort.scanSorted lt8 e b k=I/\RB Y g sp e/\w.grownBy Y (some g),fun k=>b-k,i,(cvE rfl rfl),⟨⟨hi,hib⟩,hI.symm,hrX,gX⟩,?_⟩;rintro k Y ⟨⟨hk1,hk2⟩,hRs,hrY,gY⟩;have gYd:=zd gY (zz Y g);have qd:RB Y.drew g sp e:=hrY;refine DrawE.ord [] [0,1,2,3,4,5,6,7,8,9,10,11,12,13,14,15] (by kernel_rfl) (biE (fun h2=>?_) fun h2=>?_)
    ·have h2:(k:Int)<(b:Int):=dT h2;have h2:k<b:=(by omega);have hx1:k<e.size:=(by omega);have hx2:k-1<e.size:=(by omega);refine⟨k,rfl,by omega,?_⟩;refine⟨_,zu qd hx1,((k-1:Nat):Int),(ze (by first | omega | (dsimp only;omega))).trans (by first | omega | (dsimp only;omega)),k-1,rfl,by omega,?_⟩;refine⟨_,zu qd hx2,cmo jH ?_⟩;rintro e _ ⟨rfl,rfl⟩;refine⟨UW _ _,biE (fun h3=>?_) fun h3=>?_⟩
     ·have h3:(!lt8 e[k]! e[k-1]!)=true:=h3;have h3:lt8 e[k]! e[k-1]! = false:=(by simpa using h3);rw [znO h2 h3] at hRs;exact⟨((k+1:Nat):Int),(ze (by first | omega | (dsimp only;omega))).trans (by first | omega | (dsimp only;omega)),k+1,(cvE rfl rfl),⟨⟨by omega,by omega⟩,hRs,qd,gYd⟩,zdc (by omega)⟩
     ·have h3:(!lt8 e[k]! e[k-1]!)=false:=h3;have h3:lt8 e[k]! e[k-1]! = true:=(by simpa using h3);rw [zjW fun _=>h3] at hRs;subst hRs;exact⟨(),(cvE rfl rfl),⟨hk1,hk2⟩,qd,gYd⟩
    ·have h2:¬ (k:Int)<(b:Int):=dF h2;refine Ga (fun h=>by cases h) (fun _=>?_);rw [zjW fun h=>Gj h (by omega)] at hRs;subst hRs;exact⟨(),(cvE rfl rfl),⟨hk1,hk2⟩,qd,gYd⟩
   rintro _ Y ⟨⟨hI1,hI2⟩,hrY,gY⟩;refine biE (fun h=>?_) fun h=>?_
   ·have h:(I:Int)=(b:Int):=dT h;rw [Gi (by omega)] at hR1;exact fin _ _ _ hR1 hrY gY
   ·have h:¬ (I:Int)=(b:Int):=dF h;have hIb:I<b:=(by omega);rw [Gh (by omega)] at hR1;refine⟨((b-a:Nat):Int),(ze (by first | omega | (dsimp only;omega))).trans (by first | omega | (dsimp only;omega)),biE (fun h5=>?_) fun h5=>?_⟩
    ·have h5:((b-a:Nat):Int)<50:=dT h5;rw [Gi (by omega)] at hR1;exact fin _ _ _ hR1 hrY gY
    ·have h5:¬ ((b-a:Nat):Int)<50:=dF h5;rw [Gh (by omega)] at hR1;have hx1:I<e.size:=(by omega);have hx2:I-1<e.size:=(by omega);have qd:RB Y.drew g sp e:=hrY;refine DrawE.ord [15,17] [0,1,2,3,4,5,6,7,8,9,10,11,12,13,14,15,16,17] (by kernel_rfl) ⟨((I-1:Nat):Int),(ze (by first | omega | (dsimp only;omega))).trans (by first | omega | (dsimp only;omega)),((I-1:Nat):Int),(ze (by first | omega | (dsimp only;omega))).trans (by first | omega | (dsimp only;omega)),I-1,rfl,by omega,?_⟩;refine⟨_,zu qd hx2,I,rfl,by omega,?_⟩;refine⟨_,zu qd hx1,I,rfl,by omega,?_⟩;refine zN k5 rfl qd hx1 e[I-1]! fun V1s q1s g1s=>⟨I-1,rfl,by omega,?_⟩;refine zN k5 rfl q1s (by rw [Array.size_setIfInBounds];exact hx2) e[I]! fun V2s q2s g2s=>?_;have q2s:RB V2s g sp (swp e (I) (I-1)):=q2s;have z2s:(swp e (I) (I-1)).size=e.size:=Go.Sort.size_swp e (I) (I-1);rw [<- hD1] at q2s z2s;have gs:=zd gY (zd (zz _ g) (zd g1s g2s));have hz1:D1.size=L:=(by rw [z2s];exact hze);refine⟨Unit,fun _=>⟨[(0,.slice (some ⟨g,0,none⟩) L cap),(1,i64 a),(2,i64 b),(7,i64 (I:Nat)),(8,i64 (n:Nat))],[]⟩,fun _ Z=>D2.size=L/\RB Z g sp D2/\w.grownBy Z (some g),?_,?_⟩
     ·refine⟨((I-a:Nat):Int),(ze (by first | omega | (dsimp only;omega))).trans (by first | omega | (dsimp only;omega)),biE (fun h6=>?_) fun h6=>?_⟩
      ·have h6:(2:Int)<=((I-a:Nat):Int):=dT h6;rw [Gi (by omega)] at hD2;refine⟨((I-1:Nat):Int),(ze (by first | omega | (dsimp only;omega))).trans (by first | omega | (dsimp only;omega)),Nat×Array UInt8,fun s=>⟨[(0,.slice (some ⟨g,0,none⟩) L cap),(1,i64 a),(2,i64 b),(7,i64 (I:Nat)),(8,i64 (n:Nat)),(9,i64 (s.1:Nat))],[]⟩,fun s V=>(s.1<=I-1)/\s.2.size=L/\Go.Sort.shiftDown lt8 s.1 s.2=D2/\RB V g sp s.2/\w.grownBy V (some g),fun s=>s.1,(I-1,D1),(cvE rfl rfl),⟨UR _,hz1,hD2.symm,q2s,gs⟩,?_⟩;rintro⟨k,f⟩ V ⟨hk,hzf,hRf,hrV,gV⟩;dsimp only at hk hzf hRf hrV;refine biE (fun h7=>?_) fun h7=>?_
       ·have h7:(1:Int)<=(k:Int):=dT h7;obtain⟨m,rfl⟩:∃ m,k=m+1:=⟨k-1,by omega⟩;have hRf:(if (!lt8 f[m+1]! f[m]!)=true then f else Go.Sort.shiftDown lt8 m (swp f (m+1) m))=D2:=hRf;have hx3:m+1<f.size:=(by omega);have hx4:m<f.size:=(by omega);have qv:RB V.drew g sp f:=hrV;have gVd:=zd gV (zz V g);refine DrawE.ord [] [0,1,2,3,4,5,6,7,8,9,10] (by kernel_rfl) ⟨m+1,rfl,by omega,?_⟩;refine⟨_,zu qv hx3,((m:Nat):Int),(ze (by first | omega | (dsimp only;omega))).trans (by first | omega | (dsimp only;omega)),m,rfl,by omega,?_⟩;refine⟨_,zu qv hx4,cmo jH ?_⟩;rintro e _ ⟨rfl,rfl⟩;refine⟨UW _ _,biE (fun h8=>?_) fun h8=>?_⟩
        ·have h8:(!lt8 f[m+1]! f[m]!)=true:=h8;rw [Gi h8] at hRf;subst hRf;exact⟨(),(cvE rfl rfl),hzf,qv,gVd⟩
        ·have h8:(!lt8 f[m+1]! f[m]!)=false:=h8;rw [Gh (by rw [h8];exact Ks)] at hRf;have qw:RB V.drew.drew g sp f:=hrV;refine DrawE.ord [15,17] [0,1,2,3,4,5,6,7,8,9,10,11,12,13,14,15,16,17] (by kernel_rfl) ⟨((m:Nat):Int),(ze (by first | omega | (dsimp only;omega))).trans (by first | omega | (dsimp only;omega)),((m:Nat):Int),(ze (by first | omega | (dsimp only;omega))).trans (by first | omega | (dsimp only;omega)),m,rfl,by omega,?_⟩;refine⟨_,zu qw hx4,m+1,rfl,by omega,?_⟩;refine⟨_,zu qw hx3,m+1,rfl,by omega,?_⟩;refine zN k5 rfl qw hx3 f[m]! fun V1 q1 g1=>⟨m,rfl,by omega,?_⟩;refine zN k5 rfl q1 (by rw [Array.size_setIfInBounds];exact hx4) f[m+1]! fun V2 q2 g2=>?_;have q2:RB V2 g sp (swp f (m+1) (m)):=q2;have z2:(swp f (m+1) (m)).size=f.size:=Go.Sort.size_swp f (m+1) (m);exact⟨((m:Nat):Int),(ze (by first | omega | (dsimp only;omega))).trans (by first | omega | (dsimp only;omega)),(m,swp f (m+1) m),(cvE rfl rfl),⟨by show m<=I-1;omega,by show (swp f _ _).size=L;rw [z2];exact hzf,hRf,q2,zd gVd (zd (zz _ g) (zd g1 g2))⟩,Qx m⟩
       ·have h7:¬ (1:Int)<=(k:Int):=dF h7;obtain rfl:k=0:=(by omega);have hRf:f=D2:=hRf;subst hRf;exact⟨(),(cvE rfl rfl),hzf,hrV,gV⟩
      ·have h6:¬ (2:Int)<=((I-a:Nat):Int):=dF h6;rw [Gh (by omega)] at hD2;subst hD2;exact⟨(),(cvE rfl rfl),hz1,q2s,gs⟩
     rintro _ Z ⟨hzZ,hrZ,gZ⟩;refine⟨((b-I:Nat):Int),(ze (by first | omega | (dsimp only;omega))).trans (by first | omega | (dsimp only;omega)),biE (fun h6=>?_) fun h6=>?_⟩
     ·have h6:(2:Int)<=((b-I:Nat):Int):=dT h6;rw [Gi (by omega)] at hD3;refine⟨((I+1:Nat):Int),(ze (by first | omega | (dsimp only;omega))).trans (by first | omega | (dsimp only;omega)),Nat×Array UInt8,fun s=>⟨[(0,.slice (some ⟨g,0,none⟩) L cap),(1,i64 a),(2,i64 b),(7,i64 (I:Nat)),(8,i64 (n:Nat)),(10,i64 (s.1:Nat))],[]⟩,fun s V=>(I+1<=s.1/\s.1<=b)/\s.2.size=L/\Go.Sort.shiftUp lt8 b s.1 s.2=D3/\RB V g sp s.2/\w.grownBy V (some g),fun s=>b-s.1,(I+1,D2),(cvE rfl rfl),⟨⟨UR _,by show I+1<=b;omega⟩,hzZ,hD3.symm,hrZ,gZ⟩,?_⟩;rintro⟨k,f⟩ V ⟨hk,hzf,hRf,hrV,gV⟩;dsimp only at hk hzf hRf hrV;refine biE (fun h7=>?_) fun h7=>?_
      ·have h7:(k:Int)<(b:Int):=dT h7;rw [Go.Sort.shiftUp,Gi (by omega)] at hRf;have hx3:k<f.size:=(by omega);have hx4:k-1<f.size:=(by omega);have qv:RB V.drew g sp f:=hrV;have gVd:=zd gV (zz V g);refine DrawE.ord [] [0,1,2,3,4,5,6,7,8,9,10] (by kernel_rfl) ⟨k,rfl,by omega,?_⟩;refine⟨_,zu qv hx3,((k-1:Nat):Int),(ze (by first | omega | (dsimp only;omega))).trans (by first | omega | (dsimp only;omega)),k-1,rfl,by omega,?_⟩;refine⟨_,zu qv hx4,cmo jH ?_⟩;rintro e _ ⟨rfl,rfl⟩;refine⟨UW _ _,biE (fun h8=>?_) fun h8=>?_⟩
       ·have h8:(!lt8 f[k]! f[k-1]!)=true:=h8;rw [Gi h8] at hRf;subst hRf;exact⟨(),(cvE rfl rfl),⟨hI1,hI2⟩,hzf,hR1,qv,gVd⟩
       ·have h8:(!lt8 f[k]! f[k-1]!)=false:=h8;rw [Gh (by rw [h8];exact Ks)] at hRf;have qw:RB V.drew.drew g sp f:=hrV;refine DrawE.ord [15,17] [0,1,2,3,4,5,6,7,8,9,10,11,12,13,14,15,16,17] (by kernel_rfl) ⟨((k-1:Nat):Int),(ze (by first | omega | (dsimp only;omega))).trans (by first | omega | (dsimp only;omega)),((k-1:Nat):Int),(ze (by first | omega | (dsimp only;omega))).trans (by first | omega | (dsimp only;omega)),k-1,rfl,by omega,?_⟩;refine⟨_,zu qw hx4,k,rfl,by omega,?_⟩;refine⟨_,zu qw hx3,k,rfl,by omega,?_⟩;refine zN k5 rfl qw hx3 f[k-1]! fun V1 q1 g1=>⟨k-1,rfl,by omega,?_⟩;refine zN k5 rfl q1 (by rw [Array.size_setIfInBounds];exact hx4) f[k]! fun V2 q2 g2=>?_;have q2:RB V2 g sp (swp f (k) (k-1)):=q2;have z2:(swp f (k) (k-1)).size=f.size:=Go.Sort.size_swp f (k) (k-1);exact⟨((k+1:Nat):Int),(ze (by first | omega | (dsimp only;omega))).trans (by first | omega | (dsimp only;omega)),(k+1,swp f k (k-1)),(cvE rfl rfl),⟨⟨by show I+1<=k+1;omega,by show k+1<=b;omega⟩,by show (swp f _ _).size=L;rw [z2];exact hzf,hRf,q2,zd gVd (zd (zz _ g) (zd g1 g2))⟩,zdc (by omega)⟩
      ·have h7:¬ (k:Int)<(b:Int):=dF h7;rw [Go.Sort.shiftUp,Gh (by omega)] at hRf;subst hRf;exact⟨(),(cvE rfl rfl),⟨hI1,hI2⟩,hzf,hR1,hrV,gV⟩
     ·have h6:¬ (2:Int)<=((b-I:Nat):Int):=dF h6;rw [Gh (by omega)] at hD3;subst hD3;exact⟨(),(cvE rfl rfl),⟨hI1,hI2⟩,hzZ,hR1,hrZ,gZ⟩
  rintro _ Y ⟨⟨hI1,hI2⟩,hz3,hR3,hrY,gY⟩;exact⟨((n+1:Nat):Int),(ze (by first | omega | (dsimp only;omega))).trans (by first | omega | (dsimp only;omega)),(n+1,I,D3),(cvE rfl rfl),⟨⟨by show n+1<=5;omega,hI1,hI2⟩,hz3,hR3,hrY,gY⟩,zdc (by omega)⟩
 ·have hc:¬ (n:Int)<5:=dF hc;obtain rfl:n=5:=by omega
  have hR1:(e,false)=R:=hR1;exact fin _ _ _ hR1 hrX gX
end
abbrev zhI (w:Wd) (s:Nat) (v:Int):Prop:=w.heap[s]?=some (.cells #[.int .i64 v] 3 (0,0))
theorem zm5 {w:Wd} {s:Nat} {v:Int} (h:zhI w s v):w.cell? ⟨s,0,none⟩=some (.int .i64 v):=zc (za h) (i:=0) rfl
section
variable {w:Wd} {g cap L a b s:Nat} {v:Int} {sp:List Value} {d:Array UInt8}
theorem zeB {w2:Wd} (h:RB w g sp d) (hg:w.grownBy w2 (some s)) (hs:s≠g):RB w2 g sp d:=by
 refine RowS.same h (hg.block g (RowS.lt h) fun e=>hs ?_)
 cases e;rfl
theorem zgO (hr:RB w g sp d) (hL:d.size=L) (hb:zhI w s v) (hs:s≠g) (ha:a<L) (hbL:b<L) (hl:L<=1000000) :
  Calls PG 198 #[.slice (some ⟨g,0,none⟩) L cap,i64 a,i64 b,At0 s] w fun e w'=>(∃ x y:Nat,e = .returned (.tuple #[i64 x,i64 y])/\((x=a/\y=b)\/(x=b/\y=a)))/\(∃ u,zhI w' s u)/\w.grownBy w' (some s):=by
 refine zF 28 [.slice (some ⟨g,0,none⟩) L cap,i64 a,i64 b,At0 s] Tryz.func198 ?_;have qd:RB w.drew g sp d:=hr;have hx1:a<d.size:=by omega
 have hx2:b<d.size:=by omega
 have hbd:zhI w.drew s v:=hb;refine DrawE.ord [] [0,1,2,3,4,5,6,7,8] (by kernel_rfl) ⟨b,rfl,by omega,?_⟩;refine⟨_,zu qd hx2,a,rfl,by omega,?_⟩;refine⟨_,zu qd hx1,cmo jH ?_⟩;rintro e _ ⟨rfl,rfl⟩;refine⟨UW _ _,biE (fun h=>?_) fun h=>?_⟩
 ·exact⟨_,zm5 hbd,_,rfl,ja k3 rfl hbd (o:=0) (by show 0<1;decide) (v := .int .i64 (IntKind.i64.wrap (v+1))) rfl rfl fun Y fY gY sY=>⟨⟨b,a,rfl,.inr ⟨rfl,rfl⟩⟩,⟨_,fY⟩,zd (zz w s) gY⟩⟩
 ·exact⟨⟨a,b,rfl,.inl ⟨rfl,rfl⟩⟩,⟨_,hbd⟩,zz w s⟩
theorem zky {c:Nat} (hr:RB w g sp d) (hL:d.size=L) (hb:zhI w s v) (hs:s≠g) (ha:a<L) (hbL:b<L) (hcL:c<L) (hl:L<=1000000) :
  Calls PG 191 #[.slice (some ⟨g,0,none⟩) L cap,i64 a,i64 b,i64 c,At0 s] w fun e w'=>(∃ x:Nat,e = .returned (i64 x)/\(x=a\/x=b\/x=c))/\(∃ u,zhI w' s u)/\w.grownBy w' (some s):=by
 refine zF 36 [.slice (some ⟨g,0,none⟩) L cap,i64 a,i64 b,i64 c,At0 s] Tryz.func191 ?_;refine cmo (zgO hr hL hb hs ha hbL hl) ?_;rintro e X ⟨⟨x,y,rfl,hxy⟩,⟨u,bX⟩,gX⟩;have rX:=zeB hr gX hs;refine cmo (zgO rX hL bX hs (a:=y) (b:=c) (by omega) hcL hl) ?_;rintro e Y ⟨⟨x2,y2,rfl,hxy2⟩,⟨u2,bY⟩,gY⟩;have rY:=zeB rX gY hs;refine cmo (zgO rY hL bY hs (a:=x) (b:=x2) (by omega) (by omega) hl) ?_;rintro e Z ⟨⟨x3,y3,rfl,hxy3⟩,bZ,gZ⟩;exact⟨⟨y3,rfl,by omega⟩,bZ,zd gX (zd gY gZ)⟩
theorem zg6 (hr:RB w g sp d) (hL:d.size=L) (hb:zhI w s v) (hs:s≠g) (ha:1<=a) (haL:a+1<L) (hl:L<=1000000) :
  Calls PG 190 #[.slice (some ⟨g,0,none⟩) L cap,i64 a,At0 s] w fun e w'=>(∃ x:Nat,e = .returned (i64 x)/\(x=a-1\/x=a\/x=a+1))/\(∃ u,zhI w' s u)/\w.grownBy w' (some s):=by
 refine zF 15 [.slice (some ⟨g,0,none⟩) L cap,i64 a,At0 s] Tryz.func190 ?_;refine⟨((a-1:Nat):Int),(ze (by omega)).trans (by omega),nxI (by omega) (cmo (zky hr hL hb hs (a:=a-1) (b:=a) (c:=a+1) (by omega) (by omega) haL hl) ?_)⟩;rintro e X ⟨⟨x,rfl,hx⟩,hb,hg⟩;exact⟨⟨x,rfl,hx⟩,hb,hg⟩
theorem zi5 (n k:Nat) (h:n<=1000000):IntKind.i64.wrap ((n:Int).tdiv (k:Int))=((n/k:Nat):Int):=by
 have e:(n:Int).tdiv (k:Int)=((n/k:Nat):Int):=rfl;have:n/k<=n:=Nat.div_le_self n k;rw [e];generalize n/k=q at this ⊢;exact ze (by omega)
theorem zuC {a b n q L:Nat} (hn:n=b-a) (hq:4*q<=n) (h2:2<=q) (hb:b<=L):(1<=a+q*1/\a+q*1+1<L)/\(1<=a+q*2/\a+q*2+1<L)/\(1<=a+q*3/\a+q*3+1<L):=by omega
theorem zn3 {a b n q x:Nat} (hn:n=b-a) (hq:4*q<=n) (h2:2<=q) (k:Nat) (hk:k=1\/k=2\/k=3) (hx:x=a+q*k-1\/x=a+q*k\/x=a+q*k+1):a<=x/\x<b:=by
 rcases hk with rfl | rfl | rfl <;> omega
theorem zrb (hr:RB w g sp d) (hL:d.size=L) (hab:a<b) (hbL:b<=L) (hl:L<=1000000) :
  Calls PG 168 #[.slice (some ⟨g,0,none⟩) L cap,i64 a,i64 b] w fun e w'=>(∃ (p:Nat) (h:Int),e = .returned (.tuple #[i64 p,.int .i64 h])/\a<=p/\p<b)/\RB w' g sp d/\w.grownBy w' (some g):=by
 refine qk 57 [.slice (some ⟨g,0,none⟩) L cap,i64 a,i64 b] (.s .p (.s .p (.s .p (.s .p (.s .p (.c .p (.c (.s .p (.d (.c .p .p) .p)) .p))))))) Tryz.func168 ?_;obtain⟨n,hn⟩:=nm (b-a);obtain⟨q,hq⟩:=nm (n/4);have hn1:IntKind.i64.wrap (((b:Nat):Int)-((a:Nat):Int))=(n:Int):=(ze (by omega)).trans (by omega);have hq4:IntKind.i64.wrap ((n:Int).tdiv 4)=(q:Int):=by rw [hq];exact zi5 n 4 (by omega)
 have hqn:4*q<=n:=by omega
 refine⟨(n:Int),hn1,?_⟩;obtain⟨s,hsz⟩:=nm (w.heap.size);have bS:zhI (w.alloc (.cells #[.int .i64 0] 3)) s 0:=by rw [hsz];exact zy w _
 have hbw:Bw w (w.alloc (.cells #[.int .i64 0] 3)):=zba w _;have hgs:s≠g:=fun e=>by have:=RowS.lt hr;omega
 have rS:RB (w.alloc (.cells #[.int .i64 0] 3)) g sp d:=RowS.below hr hbw;subst hsz;refine⟨by decide,(q:Int),hq4,((q*1:Nat):Int),(ze (by omega)).trans (by omega),((a+q*1:Nat):Int),(ze (by omega)).trans (by omega),by decide,(q:Int),hq4,((q*2:Nat):Int),(ze (by omega)).trans (by omega),((a+q*2:Nat):Int),(ze (by omega)).trans (by omega),Unit,fun _=>⟨[(0,.slice (some ⟨g,0,none⟩) L cap),(1,i64 a),(2,i64 b),(8,i64 n),(9,At0 w.heap.size),(10,i64 (a+q*1:Nat)),(11,i64 (a+q*2:Nat)),(12,i64 (a+q*3:Nat))],[]⟩,fun _ X=>w.alloc (.cells #[.int .i64 0] 3)=X,?_,?_⟩
 ·exact⟨by decide,(q:Int),hq4,((q*3:Nat):Int),(ze (by omega)).trans (by omega),((a+q*3:Nat):Int),(ze (by omega)).trans (by omega),(),(cvE rfl rfl),rfl⟩
 rintro _ _ rfl;have keep:∀ Y,(w.alloc (.cells #[.int .i64 0] 3)).grownBy Y (some w.heap.size)->RB Y g sp d/\w.grownBy Y (some g):=fun Y gY =>
  ⟨zeB rS gY hgs,zi (hbw.trans (zk gY hbw.size (by omega)))⟩
 refine⟨Nat×Int,fun t=>⟨[(0,.slice (some ⟨g,0,none⟩) L cap),(1,i64 a),(2,i64 b),(9,At0 w.heap.size),(11,i64 (t.1:Nat))],[]⟩,fun t X=>(a<=t.1/\t.1<b)/\zhI X w.heap.size t.2/\(w.alloc (.cells #[.int .i64 0] 3)).grownBy X (some w.heap.size),?_,?_⟩
 ·refine biE (fun hc=>?_) fun hc=>?_
  ·have hc:(8:Int)<=(n:Int):=dT hc;refine⟨(Nat×Nat×Nat)×Int,fun t=>⟨[(0,.slice (some ⟨g,0,none⟩) L cap),(1,i64 a),(2,i64 b),(9,At0 w.heap.size),(10,i64 (t.1.1:Nat)),(11,i64 (t.1.2.1:Nat)),(12,i64 (t.1.2.2:Nat))],[]⟩,fun t X=>((a<=t.1.1/\t.1.1<b)/\(a<=t.1.2.1/\t.1.2.1<b)/\(a<=t.1.2.2/\t.1.2.2<b))/\zhI X w.heap.size t.2/\(w.alloc (.cells #[.int .i64 0] 3)).grownBy X (some w.heap.size),?_,?_⟩
   ·refine biE (fun h5=>?_) fun h5=>?_
    ·have h2q:2<=q:=(by omega);obtain⟨⟨m1,m2⟩,⟨m3,m4⟩,m5,m6⟩:=zuC hn hqn h2q hbL;have c1:=zg6 (cap:=cap) rS hL bS hgs (a:=a+q*1) m1 m2 hl;refine cmo c1 ?_;rintro e X ⟨⟨x,rfl,hx⟩,⟨u,bX⟩,gX⟩;have c2:=zg6 (cap:=cap) (keep X gX).1 hL bX hgs (a:=a+q*2) m3 m4 hl;refine cmo c2 ?_;rintro e Y ⟨⟨y,rfl,hy⟩,⟨u2,bY⟩,gY⟩;have gY':=zd gX gY;have c3:=zg6 (cap:=cap) (keep Y gY').1 hL bY hgs (a:=a+q*3) m5 m6 hl;refine cmo c3 ?_;rintro e Z ⟨⟨z,rfl,hz⟩,⟨u3,bZ⟩,gZ⟩;exact⟨((x,y,z),u3),(cvE rfl rfl),⟨zn3 hn hqn h2q 1 (.inl rfl) hx,zn3 hn hqn h2q 2 (.inr (.inl rfl)) hy,zn3 hn hqn h2q 3 (.inr (.inr rfl)) hz⟩,bZ,zd gY' gZ⟩
    ·have h2q:2<=q:=(by omega);exact⟨((a+q*1,a+q*2,a+q*3),0),(cvE rfl rfl),⟨zn3 hn hqn h2q 1 (.inl rfl) (.inr (.inl rfl)),zn3 hn hqn h2q 2 (.inr (.inl rfl)) (.inr (.inl rfl)),zn3 hn hqn h2q 3 (.inr (.inr rfl)) (.inr (.inl rfl))⟩,bS,qg _ _⟩
   ·rintro⟨⟨x,y,z⟩,u⟩ X ⟨⟨hx,hy,hz⟩,bX,gX⟩;dsimp only at hx hy hz bX gX;refine cmo (zky (keep X gX).1 hL bX hgs (a:=x) (b:=y) (c:=z) (by omega) (by omega) (by omega) hl) ?_;rintro e Y ⟨⟨m,rfl,hm⟩,⟨u2,bY⟩,gY⟩;refine⟨(m,u2),(cvE rfl rfl),⟨?_,?_⟩,bY,zd gX gY⟩ <;> dsimp only <;> omega
  ·refine⟨(a+q*2,0),(cvE rfl rfl),⟨?_,?_⟩,bS,qg _ _⟩ <;> dsimp only <;> omega
 rintro⟨p,u⟩ X ⟨hp,bX,gX⟩;dsimp only at hp bX gX;obtain⟨k1,k2⟩:=keep X gX;refine⟨_,zm5 bX,biE (fun h=>?_) fun h=>?_⟩
 ·exact⟨⟨p,1,rfl,hp⟩,k1,k2⟩
 ·refine biE (fun h=>?_) fun h=>?_
  ·exact⟨⟨p,2,rfl,hp⟩,k1,k2⟩
  ·exact⟨⟨p,0,rfl,hp⟩,k1,k2⟩
end
theorem zm1 {a:Nat} (h:a<2^64):(BitVec.ofInt 64 (a:Int)).toNat=a:=by
 rw [BitVec.ofInt_natCast,BitVec.toNat_ofNat,Qz h]
theorem zuj {a b:Nat} (ha:a<2^64) (hb:b<2^64):IntKind.u64.wrap ((BitVec.ofInt IntKind.u64.bits (a:Int)&&&BitVec.ofInt IntKind.u64.bits (b:Int)).toNat:Int)=((a&&&b:Nat):Int):=by
 show IntKind.u64.wrap ((BitVec.ofInt 64 (a:Int)&&&BitVec.ofInt 64 (b:Int)).toNat:Int)=_;rw [Qd,zm1 ha,zm1 hb];have:a&&&b<=a:=QT;exact zaQ (by omega)
theorem exU {x:Int} {K:Int->Prop} (k:∀ r:Nat,r<2^64->K (r:Int)):∃ r,IntKind.u64.wrap x=r/\K r:=by
 have h:0<=IntKind.u64.wrap x/\IntKind.u64.wrap x<18446744073709551616:=by
  unfold IntKind.wrap;simp only [IntKind.bits,IntKind.signed,Ue,Kr,Ge];omega
 obtain⟨r,hr⟩:=Int.eq_ofNat_of_zero_le h.1;refine⟨_,rfl,?_⟩;rw [hr];exact k r (by rw [hr] at h;omega)
def zt2 (l:List UInt8):Bool:=(List.range l.length).all fun m=>match l[m]? with
 | some u=>decide (u.toNat<=8)&&(decide (m=0)||decide (2^u.toNat<=2*m))
 | none=>false
theorem zoY {l:List UInt8} (hs:zt2 l=true) {n:Nat} {u:UInt8} (h:l[n]?=some u):u.toNat<=8/\(1<=n->2^u.toNat<=2*n):=by
 have:=Qg.1 hs n (Uj.2 (Jr.1 h).1);rw [h] at this;simp only [bAT,QC,dE] at this;exact⟨this.1,fun h1=>this.2.resolve_left (by omega)⟩
theorem zo3 {s:ByteArray} {n:Nat} {K:UInt8->Prop} (h:n<s.size) (k:∀ u,s.data.toList[n]?=some u->K u):∃ u,s.data.toList[n]?=some u/\K u:=by
 have h:n<s.data.toList.length:=by simpa using h
 exact⟨_,gE h,k _ (gE h)⟩
section
variable {w:Wd} {g cap L a b s:Nat} {v:Int} {sp:List Value} {d:Array UInt8}
theorem zpI {n:Nat} (h:n<65536):Calls PG 175 #[.int .u64 (n:Nat)] w fun e w'=>(∃ m:Nat,e = .returned (i64 m)/\m<=16/\(1<=n->2^m<=2*n))/\w=w':=by
 refine zF 25 [.int .u64 (n:Nat)] Tryz.func175 ?_;refine brN (Uc (by omega)) (brN (Uc (by omega)) (biE (fun hc=>?_) fun hc=>?_))
 ·have hc:(256:Int)<=(n:Int):=dT hc;obtain⟨q,hq⟩:=nm (n/256);have hq1:1<=q/\q<256/\q*256<=n:=by omega
  refine⟨by decide,(q:Int),by
   show (n:Int).fdiv (2^(min (Int.toNat (8:Int)) IntKind.u64.bits))=_;rw [show min (Int.toNat (8:Int)) IntKind.u64.bits=8 from rfl,Jk _ (by decide)];omega,?_⟩
  refine⟨(8:Int),by decide,?_⟩;refine⟨(q:Int),zep (by omega),q,rfl,zjh hq1.2.1 (by kernel_rfl),zo3 (zjh hq1.2.1 (by kernel_rfl)) fun u hu=>?_⟩;obtain⟨t1,t2⟩:=zoY (by kernel_rfl) hu;refine⟨(u.toNat:Int),ze (by omega),((8+u.toNat:Nat):Int),(ze (by omega)).trans (by omega),⟨8+u.toNat,rfl,by omega,fun _=>?_⟩,rfl⟩;have:=t2 hq1.1;rw [Nat.pow_add];omega
 ·have hc:¬ (256:Int)<=(n:Int):=dF hc;have hn:n<256:=by omega
  refine⟨(n:Nat),zep (by omega),n,rfl,zjh hn (by kernel_rfl),zo3 (zjh hn (by kernel_rfl)) fun u hu=>?_⟩;obtain⟨t1,t2⟩:=zoY (by kernel_rfl) hu;exact⟨(u.toNat:Int),ze (by omega),((0+u.toNat:Nat):Int),(ze (by omega)).trans (by omega),⟨0+u.toNat,rfl,by omega,fun h1=>by rw [UM];exact t2 h1⟩,rfl⟩
theorem zpH {n:Nat} (h:n<65536):Calls PG 147 #[.int .u64 (n:Nat)] w fun e w'=>(∃ m:Nat,e = .returned (i64 m)/\m<=16/\(1<=n->2^m<=2*n))/\w=w':=by
 refine zF 8 [.int .u64 (n:Nat)] Tryz.func147 ?_;refine brF (cmo (zpI h) ?_);rintro e _ ⟨⟨m,rfl,h1,h2⟩,rfl⟩;exact⟨⟨m,rfl,h1,h2⟩,rfl⟩
theorem zob {n:Nat} (h:n<65536) (h1:1<=n):Calls PG 188 #[i64 n] w fun e w'=>(∃ m:Nat,e = .returned (.int .u64 (m:Nat))/\1<=m/\m<=2*n)/\w=w':=by
 refine zF 7 [i64 n] Tryz.func188 ?_;refine⟨(n:Nat),zaQ (by omega),cmo (zpH h) ?_⟩;rintro e _ ⟨⟨m,rfl,h2,h3⟩,rfl⟩;have hp:1<=2^m:=Nat.one_le_two_pow;have:=h3 h1;refine⟨by omega,((2^m:Nat):Int),?_,?_⟩
 ·rw [KI,show min m IntKind.u64.bits=m from QV (by show m<=64;omega),Int.one_mul];have e:((2:Int)^m)=((2^m:Nat):Int):=by rw [Int.natCast_pow];rfl
  rw [e];exact zaQ (by omega)
 ·exact⟨⟨2^m,rfl,hp,this⟩,rfl⟩
abbrev zhX (w:Wd) (s:Nat) (v:Nat):Prop:=w.heap[s]?=some (.cells #[.int .u64 (v:Nat)] 259 (0,0))
theorem zcF {w:Wd} {s v:Nat} (h:zhX w s v):w.cell? ⟨s,0,none⟩=some (.int .u64 (v:Nat)):=zc (za h) (i:=0) rfl
theorem ztY {v:Nat} (hb:zhX w s v):Calls PG 189 #[At0 s] w fun e w'=>(∃ r:Nat,e = .returned (.int .u64 (r:Nat))/\r<2^64/\zhX w' s r)/\w.grownBy w' (some s):=by
 refine zF 33 [At0 s] Tryz.func189 ?_;have b0:zhX w.drew s v:=hb;refine DrawE.ord [9] [0,1,2,3,4,5,6,7,8,9] (by kernel_rfl) ⟨_,zcF b0,_,zcF b0,by decide,?_⟩;refine exU fun r1 _=>exU fun r2 _=>ja zrn rfl b0 (o:=0) (by show 0<1;decide) (v := .int .u64 (r2:Nat)) rfl rfl fun Y fY gY sY=>?_;have b1:zhX Y.drew s r2:=fY;refine DrawE.ord [9] [0,1,2,3,4,5,6,7,8,9] (by kernel_rfl) ⟨_,zcF b1,_,zcF b1,by decide,_,rfl,?_⟩;refine exU fun r4 _=>ja zrn rfl b1 (o:=0) (by show 0<1;decide) (v := .int .u64 (r4:Nat)) rfl rfl fun Z fZ gZ sZ=>?_;have b2:zhX Z.drew s r4:=fZ;refine DrawE.ord [9] [0,1,2,3,4,5,6,7,8,9] (by kernel_rfl) ⟨_,zcF b2,_,zcF b2,by decide,?_⟩;refine exU fun r5 _=>exU fun r6 h6=>ja zrn rfl b2 (o:=0) (by show 0<1;decide) (v := .int .u64 (r6:Nat)) rfl rfl fun V fV gV sV=>?_;have b3:zhX V s r6:=fV;exact⟨_,zcF b3,⟨r6,rfl,h6,b3⟩,zd (zz w s) (zd gY (zd (zz _ s) (zd gZ (zd (zz _ s) gV))))⟩
theorem zsd (hr:RB w g sp d) (hL:d.size=L) (hab:a+8<=b) (hbL:b<=L) (hl:L<=60000) :
  Calls PG 167 #[.slice (some ⟨g,0,none⟩) L cap,i64 a,i64 b] w fun e w'=>e = .returned (.tuple #[])/\(∃ d',Go.Sort.PermIn a b d d'/\RB w' g sp d')/\w.grownBy w' (some g):=by
 refine zF 65 [.slice (some ⟨g,0,none⟩) L cap,i64 a,i64 b] Tryz.func167 ?_;obtain⟨n,hn⟩:=nm (b-a);obtain⟨q,hq⟩:=nm (n/4);have hn1:IntKind.i64.wrap (((b:Nat):Int)-((a:Nat):Int))=(n:Int):=(ze (by omega)).trans (by omega);have hq4:IntKind.i64.wrap ((n:Int).tdiv 4)=(q:Int):=by rw [hq];exact zi5 n 4 (by omega)
 have hq2:2<=q/\4*q<=n:=by omega
 refine⟨(n:Int),hn1,brE (Un (by omega)) ⟨(n:Nat),zaQ (by omega),?_⟩⟩;obtain⟨s,hsz⟩:=nm (w.heap.size);have hgs:s≠g:=fun e=>by have:=RowS.lt hr;omega
 have hbw:Bw w (w.alloc (.cells #[.int .u64 0] 259)):=zba w _;refine ja zrn rfl (zy w (.cells #[.int .u64 0] 259)) (o:=0) (by show 0<1;decide) (v := .int .u64 (n:Nat)) rfl rfl fun X fX gX sX=>?_;rw [<- hsz] at fX gX;have bX:zhX X s n:=fX;have hwX:Bw w X:=hbw.trans (zk gX hbw.size (by omega));have rX:RB X g sp d:=RowS.below hr hwX;refine cmo (zob (n:=n) (by omega) (by omega)) ?_;rintro e _ ⟨⟨md,rfl,hm1,hm2⟩,rfl⟩;refine⟨by decide,(q:Int),hq4,((q*2:Nat):Int),(ze (by omega)).trans (by omega),((a+q*2:Nat):Int),(ze (by omega)).trans (by omega),((a+q*2-1:Nat):Int),(ze (by omega)).trans (by omega),?_⟩;refine⟨Nat×Nat×Array UInt8,fun t=>⟨[(0,.slice (some ⟨g,0,none⟩) L cap),(1,i64 a),(2,i64 b),(6,i64 n),(7,At0 s),(8,.int .u64 (md:Nat)),(9,i64 (t.1:Nat))],[]⟩,
  fun t Y=>(a<=t.1/\t.1<=a+q*2+2)/\(Go.Sort.PermIn a b d t.2.2/\t.2.2.size=L)/\zhX Y s t.2.1/\RB Y g sp t.2.2/\w.grownBy Y (some g)/\w.heap.size<=s,fun t=>a+q*2+2-t.1,(a+q*2-1,n,d),
  ⟨.cons rfl (.cons rfl (.cons rfl (.cons rfl (.cons (by rw [hsz];rfl) (.cons rfl (.cons rfl .nil)))))),rfl⟩,⟨⟨by dsimp only;omega,by dsimp only;omega⟩,⟨Go.Sort.permIn_refl _ _ _,hL⟩,bX,rX,zi hwX,by omega⟩,?_⟩
 rintro⟨i,v,e⟩ Y ⟨⟨hi1,hi2⟩,⟨hP,hze⟩,bY,rY,gY,hws⟩;dsimp only at hi1 hi2 hP hze bY rY gY;refine⟨by decide,(q:Int),hq4,((q*2:Nat):Int),(ze (by omega)).trans (by omega),((a+q*2:Nat):Int),(ze (by omega)).trans (by omega),((a+q*2+1:Nat):Int),(ze (by omega)).trans (by omega),biE (fun hc=>?_) fun hc=>?_⟩
 ·have hc:(i:Int)<=((a+q*2+1:Nat):Int):=dT hc;refine cmo (ztY bY) ?_;rintro e' Z ⟨⟨r,rfl,hr64,bZ⟩,gZ⟩;have rZ:RB Z g sp e:=zeB rY gZ hgs;have gwZ:w.grownBy Z (some g):=⟨gZ.os.trans gY.os,gZ.tape.trans gY.tape,gZ.output.trans gY.output,UI gY.size gZ.size,fun k hk hn=>(gZ.block k (nL hk gY.size) (fun h=>by cases h;omega)).trans (gY.block k hk hn)⟩;refine⟨((md-1:Nat):Int),(zaQ (by omega)).trans (by omega),?_⟩;have hand:r&&&(md-1)<=md-1:=Qu;refine⟨((r&&&(md-1):Nat):Int),zuj hr64 (by omega),?_⟩;obtain⟨o,ho⟩:=nm (r&&&(md-1));rw [<- ho] at hand ⊢;refine⟨(o:Int),ze (by omega),?_⟩;have fin:∀ o':Nat,o'<n->∀ V2,RB V2 g sp (swp e i (a+o'))->Z.grownBy V2 (some g)->(a<=i+1/\i+1<=a+q*2+2)/\(Go.Sort.PermIn a b d (swp e i (a+o'))/\(swp e i (a+o')).size=L)/\zhX V2 s r/\RB V2 g sp (swp e i (a+o'))/\w.grownBy V2 (some g)/\w.heap.size<=s:=fun o' ho' V2 q2 g2=>by
   have hp:=Go.Sort.swp_permIn e a b i (a+o') hi1 (by omega) (by omega) (by omega) (by omega);exact⟨⟨by omega,by omega⟩,⟨Go.Sort.permIn_trans _ _ _ a b hP hp,by rw [Go.Sort.size_swp];exact hze⟩,(g2.block s (hlt bZ) (fun h=>by cases h;exact hgs rfl)).trans bZ,q2,zd gwZ g2,hws⟩
  have hx1:i<e.size:=by omega
  refine biE (fun h8=>?_) fun h8=>?_
  ·have h8:(n:Int)<=(o:Int):=dT h8;refine⟨((o-n:Nat):Int),(ze (by omega)).trans (by omega),?_⟩;have hx2:a+(o-n)<e.size:=by omega
   have qd:RB Z.drew g sp e:=rZ;refine DrawE.ord [17,19] [0,1,2,3,4,5,6,7,8,9,10,11,12,13,14,15,16,17,18,19] (by kernel_rfl) ⟨((a+(o-n):Nat):Int),(ze (by omega)).trans (by omega),((a+(o-n):Nat):Int),(ze (by omega)).trans (by omega),a+(o-n),rfl,by omega,?_⟩;refine⟨_,zu qd hx2,i,rfl,by omega,?_⟩;refine⟨_,zu qd hx1,i,rfl,by omega,?_⟩;refine zN k5 rfl qd hx1 e[a+(o-n)]! fun V1 q1 g1=>⟨a+(o-n),rfl,by omega,?_⟩;exact zN k5 rfl q1 (by rw [Array.size_setIfInBounds];exact hx2) e[i]! fun V2 q2 g2=>nxI (by omega) ⟨(i+1,r,swp e i (a+(o-n))),(cvE rfl rfl),fin _ (by omega) V2 q2 (zd (zz _ g) (zd g1 g2)),by dsimp only;omega⟩
  ·have h8:¬ (n:Int)<=(o:Int):=dF h8;have hx2:a+o<e.size:=by omega
   have qd:RB Z.drew g sp e:=rZ;refine DrawE.ord [17,19] [0,1,2,3,4,5,6,7,8,9,10,11,12,13,14,15,16,17,18,19] (by kernel_rfl) ⟨((a+o:Nat):Int),(ze (by omega)).trans (by omega),((a+o:Nat):Int),(ze (by omega)).trans (by omega),a+o,rfl,by omega,?_⟩;refine⟨_,zu qd hx2,i,rfl,by omega,?_⟩;refine⟨_,zu qd hx1,i,rfl,by omega,?_⟩;refine zN k5 rfl qd hx1 e[a+o]! fun V1 q1 g1=>⟨a+o,rfl,by omega,?_⟩;exact zN k5 rfl q1 (by rw [Array.size_setIfInBounds];exact hx2) e[i]! fun V2 q2 g2=>nxI (by omega) ⟨(i+1,r,swp e i (a+o)),(cvE rfl rfl),fin _ (by omega) V2 q2 (zd (zz _ g) (zd g1 g2)),by dsimp only;omega⟩
 ·exact⟨rfl,⟨e,hP,rY⟩,gY⟩
end
end Go.Proofs.YtkpaomeeknegpaaGreatDoor
namespace Go.Proofs.YtkpaomeeknegpaaGreatDoor
open Go.Vc Go.RowKit Go.Sei
open Go.Sort (swp PermIn SortedIn permIn_refl permIn_trans)
section
variable {g cap L:Nat} {sp:List Value}
theorem zs3 (hl:L<=60000):∀ (m a0 b0:Nat) (lim0:Int) (d0:Array UInt8) (w:Wd),b0-a0<=m->RB w g sp d0->d0.size=L->a0<=b0->b0<=L->Go.Sort.Below lt8 a0 b0 d0 ->
  Calls PG 146 #[.slice (some ⟨g,0,none⟩) L cap,i64 a0,i64 b0,.int .i64 lim0] w fun e w'=>e = .returned (.tuple #[])/\∃ d',PermIn a0 b0 d0 d'/\SortedIn lt8 a0 b0 d'/\RB w' g sp d'/\w.grownBy w' (some g):=by
 intro m
 induction m using Nat.strongRecOn with
 | _ m ih =>
 intro a0 b0 lim0 d0 w hm hr hL hab0 hb0 hB0;refine qk 134 [.slice (some ⟨g,0,none⟩) L cap,i64 a0,i64 b0,.int .i64 lim0] (.s .p (.s .p (.b (.l (.b (.c .p (.s .p (.s .p (.c .p (.s .p (.c .p (.c .p (.c .p .p))))))))))))) Tryz.func146 ?_;refine⟨Nat×Nat×Int×Bool×Bool×Array UInt8,fun t=>⟨[(0,.slice (some ⟨g,0,none⟩) L cap),(1,i64 (t.1:Nat)),(2,i64 (t.2.1:Nat)),(3,.int .i64 t.2.2.1),(8,.bool t.2.2.2.1),(9,.bool t.2.2.2.2.1)],[]⟩,
  fun t X=>(t.1<=t.2.1/\t.2.1<=L/\t.2.1-t.1<=m)/\t.2.2.2.2.2.size=L/\Go.Sort.Below lt8 t.1 t.2.1 t.2.2.2.2.2/\(∀ R,PermIn t.1 t.2.1 t.2.2.2.2.2 R->SortedIn lt8 t.1 t.2.1 R->PermIn a0 b0 d0 R/\SortedIn lt8 a0 b0 R)/\RB X g sp t.2.2.2.2.2/\w.grownBy X (some g),fun t=>t.2.1-t.1,(a0,b0,lim0,true,true,d0),
  (cvE rfl rfl),⟨⟨hab0,hb0,hm⟩,hL,hB0,fun R h1 h2=>⟨h1,h2⟩,hr,qg _ _⟩,?_⟩
 rintro⟨a,b,lim,wb,wp,d⟩ X ⟨⟨hab,hb,hbm⟩,hz,hB,hC,rX,gX⟩;dsimp only at hab hb hbm hz hB hC rX gX;have fin:∀ Z R,PermIn a b d R->SortedIn lt8 a b R->RB Z g sp R->w.grownBy Z (some g)->∃ d',PermIn a0 b0 d0 d'/\SortedIn lt8 a0 b0 d'/\RB Z g sp d'/\w.grownBy Z (some g):=fun Z R h1 h2 q gz=>⟨R,(hC R h1 h2).1,(hC R h1 h2).2,q,gz⟩;refine⟨Unit,fun _=>⟨[(0,.slice (some ⟨g,0,none⟩) L cap),(1,i64 (a:Nat)),(2,i64 (b:Nat)),(3,.int .i64 lim),(8,.bool wb),(9,.bool wp),(10,i64 (b-a:Nat))],[]⟩,fun _ Y=>X=Y,?_,?_⟩
 ·exact⟨((b-a:Nat):Int),(ze (by first | omega | (dsimp only;omega))).trans (by first | omega | (dsimp only;omega)),(),(cvE rfl rfl),rfl⟩
 rintro _ _ rfl;refine biE (fun h12=>?_) fun h12=>?_
 ·have h12:((b-a:Nat):Int)<=12:=dT h12;refine cmo (ztg rX hz hab hb (by omega)) ?_;rintro e Y ⟨rfl,rY,gY⟩;obtain⟨p1,p2⟩:=Go.Sort.insertionSort_holds zoZ d a b hab (by omega);exact⟨rfl,fin Y _ p1 p2 rY (zd gX gY)⟩
 have h12:¬ ((b-a:Nat):Int)<=12:=dF h12;have hlen:12<b-a:=by omega
 refine biE (fun h0=>?_) fun h0=>?_
 ·refine cmo (zru rX hz (by omega) hb (by omega)) ?_;rintro e Y ⟨rfl,rY,gY⟩;obtain⟨p1,p2⟩:=Go.Sort.heapSort_holds zoZ d a b hab (by omega);exact⟨rfl,fin Y _ p1 p2 rY (zd gX gY)⟩
 clear h0;refine⟨Int×Array UInt8,fun t=>⟨[(0,.slice (some ⟨g,0,none⟩) L cap),(1,i64 (a:Nat)),(2,i64 (b:Nat)),(3,.int .i64 t.1),(8,.bool wb),(9,.bool wp),(10,i64 (b-a:Nat))],[]⟩,fun t Y=>PermIn a b d t.2/\RB Y g sp t.2/\w.grownBy Y (some g),?_,?_⟩
 ·refine biE (fun h=>?_) fun h=>?_
  ·refine cmo (zsd rX hz (by omega) hb hl) ?_;rintro e Y ⟨rfl,⟨d1,p1,rY⟩,gY⟩;exact⟨_,rfl,(IntKind.i64.wrap (lim-1),d1),(cvE rfl rfl),p1,rY,zd gX gY⟩
  ·exact⟨(lim,d),(cvE rfl rfl),permIn_refl _ _ _,rX,gX⟩
 rintro⟨lim1,d1⟩ Y ⟨p1,rY,gY⟩;dsimp only at p1 rY gY;have hz1:d1.size=L:=by rw [p1.1];exact hz
 refine cmo (zrb rY hz1 (by omega) hb (by omega)) ?_;rintro e Z ⟨⟨pv,hint,rfl,hp1,hp2⟩,rZ,gZ⟩;have gwZ:=zd gY gZ;refine⟨Nat×Int×Array UInt8,fun t=>⟨[(0,.slice (some ⟨g,0,none⟩) L cap),(1,i64 (a:Nat)),(2,i64 (b:Nat)),(3,.int .i64 lim1),(8,.bool wb),(9,.bool wp),(10,i64 (b-a:Nat)),(11,i64 (t.1:Nat)),(12,.int .i64 t.2.1)],[]⟩,fun t V=>(a<=t.1/\t.1<b)/\PermIn a b d t.2.2/\RB V g sp t.2.2/\w.grownBy V (some g),?_,?_⟩
 ·refine biE (fun h=>?_) fun h=>?_
  ·refine cmo (zsW rZ hz1 (by omega) hb (by omega)) ?_;rintro e V ⟨rfl,rV,gV⟩;exact⟨((b-1:Nat):Int),(ze (by omega)).trans (by omega),((pv-a:Nat):Int),(ze (by omega)).trans (by omega),((b-1-(pv-a):Nat):Int),(ze (by omega)).trans (by omega),(b-1-(pv-a),1,Go.Sort.reverseRange d1 a b),(cvE rfl rfl),⟨by dsimp only;omega,by dsimp only;omega⟩,permIn_trans _ _ _ a b p1 (Go.Sort.reverseRange_holds d1 a b hab (by omega)),rV,zd gwZ gV⟩
  ·exact⟨(pv,hint,d1),(cvE rfl rfl),⟨hp1,hp2⟩,p1,rZ,gwZ⟩
 clear hp1 hp2 rZ gZ rY gY p1 hz1 gwZ;rintro⟨pv,hint,d2⟩ V ⟨⟨hp1,hp2⟩,p2,rV,gV⟩;dsimp only at hp1 hp2 p2 rV gV;have hz2:d2.size=L:=by rw [p2.1];exact hz
 have hB2:Go.Sort.Below lt8 a b d2:=hB.perm (by omega) p2;refine⟨Array UInt8,fun t=>⟨[(0,.slice (some ⟨g,0,none⟩) L cap),(1,i64 (a:Nat)),(2,i64 (b:Nat)),(3,.int .i64 lim1),(8,.bool wb),(9,.bool wp),(10,i64 (b-a:Nat)),(11,i64 (pv:Nat))],[]⟩,fun t U=>PermIn a b d t/\RB U g sp t/\w.grownBy U (some g),?_,?_⟩
 ·have skipped:∀ (E:Env),Cov E ⟨[(0,.slice (some ⟨g,0,none⟩) L cap),(1,i64 (a:Nat)),(2,i64 (b:Nat)),(3,.int .i64 lim1),(8,.bool wb),(9,.bool wp),(10,i64 (b-a:Nat)),(11,i64 (pv:Nat))],[]⟩->∃ s:Array UInt8,Cov E ⟨[(0,.slice (some ⟨g,0,none⟩) L cap),(1,i64 (a:Nat)),(2,i64 (b:Nat)),(3,.int .i64 lim1),(8,.bool wb),(9,.bool wp),(10,i64 (b-a:Nat)),(11,i64 (pv:Nat))],[]⟩/\PermIn a b d s/\RB V g sp s/\w.grownBy V (some g):=fun E hE=>⟨d2,hE,p2,rV,gV⟩
  cases wb with
  | false =>
   exact Ga (fun h=>by cases h) (fun _=>Ga (fun h=>by cases h) (fun _=>Ga (fun h=>by cases h) (fun _=>skipped _ (cvE rfl rfl))))
  | true =>
   refine Ga (fun _=>?_) (fun h=>by cases h)
   cases wp with
   | false =>
    exact Ga (fun h=>by cases h) (fun _=>Ga (fun h=>by cases h) (fun _=>skipped _ (cvE rfl rfl)))
   | true =>
    refine Ga (fun _=>biE (fun h=>?_) fun h=>?_) (fun h=>by cases h)
    ·refine cmo (zn4 rV hz2 (by omega) hb (by omega)) ?_;rintro e U ⟨d3,ok,hpi,rfl,rU,gU⟩;have hpl:=Go.Sort.partialInsertionSort_holds zoZ d2 a b (by omega) (by omega) hB2;rw [hpi] at hpl;have p3:=permIn_trans _ _ _ a b p2 hpl.1;refine biE (fun hok=>?_) fun hok=>?_
     ·have hok:ok=true:=hok;exact⟨rfl,fin U d3 p3 (hpl.2 hok) rU (zd gV gU)⟩
     ·exact⟨d3,(cvE rfl rfl),p3,rU,zd gV gU⟩
    ·exact skipped _ (cvE rfl rfl)
 clear p2 rV gV hz2 hB2;rintro d3 U ⟨p3,rU,gU⟩;have hz3:d3.size=L:=by rw [p3.1];exact hz
 have hB3:Go.Sort.Below lt8 a b d3:=hB.perm (by omega) p3;have rUd:RB U.drew g sp d3:=rU;have gUd:=zd gU (zz U g);have hxp:pv<d3.size:=by omega
 refine⟨Unit,fun _=>⟨[(0,.slice (some ⟨g,0,none⟩) L cap),(1,i64 (a:Nat)),(2,i64 (b:Nat)),(3,.int .i64 lim1),(8,.bool wb),(9,.bool wp),(10,i64 (b-a:Nat)),(11,i64 (pv:Nat))],[]⟩,fun _ T=>RB T g sp d3/\w.grownBy T (some g),?_,?_⟩
 ·refine DrawE.ord [] [0,1,2,3,4,5,6,7,8,9,10,11,12,13,14] (by kernel_rfl) (biE (fun h1=>?_) fun h1=>?_)
  ·have h1:(0:Int)<(a:Int):=dT h1;have hxa:a-1<d3.size:=by omega
   refine⟨((a-1:Nat):Int),(ze (by omega)).trans (by omega),a-1,rfl,by omega,?_⟩;refine⟨_,zu rUd hxa,pv,rfl,by omega,?_⟩;refine⟨_,zu rUd hxp,cmo jH ?_⟩;rintro e _ ⟨rfl,rfl⟩;refine⟨UW _ _,biE (fun h2=>?_) fun h2=>?_⟩
   ·have h2:(!lt8 d3[a-1]! d3[pv]!)=true:=h2;have h2:lt8 d3[a-1]! d3[pv]! = false:=(by simpa using h2);refine cmo (zpp rUd hz3 hp1 hp2 hb (by omega)) ?_;rintro e T ⟨mid,d4,hpe,rfl,rT,gT⟩;obtain⟨q1,q2,q3,q4,q5⟩:=Go.Sort.round_eq zoZ (Go.Sort.partitionEqual_holds lt8) (by omega) hp1 hp2 (by omega) hB3 h2 hpe;refine⟨(mid,b,lim1,wb,wp,d4),(cvE rfl rfl),⟨⟨q2,hb,by dsimp only;omega⟩,by dsimp only;omega,q4,fun R r1 r2=>?_,rT,zd gUd gT⟩,by dsimp only;omega⟩;obtain⟨s1,s2⟩:=q5 R r1 r2;exact hC R (permIn_trans _ _ _ a b p3 s1) s2
   ·exact⟨(),(cvE rfl rfl),rUd,gUd⟩
  ·exact Ga (fun h=>by cases h) (fun _=>⟨(),(cvE rfl rfl),rUd,gUd⟩)
 rintro _ T ⟨rT,gT⟩;refine cmo (zs7 rT hz3 hp1 hp2 hb (by omega)) ?_;rintro e S ⟨mid,ap,d4,hpt,rfl,rS,gS⟩;have gwS:=zd gT gS;obtain⟨q1,q2,q3,q4,q5,q6,q7⟩:=Go.Sort.round_part zoZ (Go.Sort.partition_holds lt8) hp1 hp2 (by omega) hB3 hpt;have hz4:d4.size=L:=by omega
 refine⟨((mid-a:Nat):Int),(ze (by omega)).trans (by omega),((b-mid:Nat):Int),(ze (by omega)).trans (by omega),by decide,(((b-a)/8:Nat):Int),zi5 (b-a) 8 (by omega),biE (fun hc=>?_) fun hc=>?_⟩
 ·refine cmo (ih (mid-a) (by omega) a mid lim1 d4 S (UR _) rS hz4 q1 (by omega) q4) ?_;rintro e' Q ⟨rfl,d5,r1,r2,rQ,gQ⟩;obtain⟨hB5,hfin⟩:=q6 d5 r1 r2;refine nxI (by omega) ⟨(mid+1,b,lim1,decide ((((b-a)/8:Nat):Int)<=((mid-a:Nat):Int)),ap,d5),(cvE rfl rfl),⟨⟨by dsimp only;omega,hb,by dsimp only;omega⟩,by show d5.size=L;rw [r1.1];exact hz4,hB5,fun R s1 s2=>?_,rQ,zd gwS gQ⟩,by dsimp only;omega⟩;obtain⟨t1,t2⟩:=hfin R s1 s2;exact hC R (permIn_trans _ _ _ a b p3 t1) t2
 ·refine nxI (by omega) (cmo (ih (b-(mid+1)) (by omega) (mid+1) b lim1 d4 S (UR _) rS hz4 (by omega) hb q5) ?_);rintro e' Q ⟨rfl,d5,r1,r2,rQ,gQ⟩;obtain⟨hB5,hfin⟩:=q7 d5 r1 r2;refine⟨(a,mid,lim1,decide ((((b-a)/8:Nat):Int)<=((b-mid:Nat):Int)),ap,d5),(cvE rfl rfl),⟨⟨q1,by dsimp only;omega,by dsimp only;omega⟩,by show d5.size=L;rw [r1.1];exact hz4,hB5,fun R s1 s2=>?_,rQ,zd gwS gQ⟩,by dsimp only;omega⟩;obtain⟨t1,t2⟩:=hfin R s1 s2;exact hC R (permIn_trans _ _ _ a b p3 t1) t2
end
end Go.Proofs.YtkpaomeeknegpaaGreatDoor
namespace Go.Proofs.YtkpaomeeknegpaaGreatDoor
open Go.Vc Go.RowKit Go.Sei
section
variable {g cap:Nat} {l:List UInt8} {w:Wd}
theorem zsm {sp:List Value} (hr:RowS zR 5 w g sp l) (hl:l.length<=60000) :
  Calls PG 101 #[.slice (some ⟨g,0,none⟩) l.length cap] w fun e w'=>e = .returned (.tuple #[])/\∃ l',l'.Perm l/\l'.Pairwise (fun x y=>x.toNat<=y.toNat)/\RowS zR 5 w' g sp l'/\w.grownBy w' (some g):=by
 refine zF 11 [.slice (some ⟨g,0,none⟩) l.length cap] Tryz.func101 ?_;refine⟨(l.length:Nat),zaQ (by omega),cmo (zpH (n:=l.length) (by omega)) ?_⟩;rintro e _ ⟨⟨m,rfl,h1,h2⟩,rfl⟩;have hs:l.toArray.size=l.length:=rfl;refine cmo (zs3 (sp:=sp) (L:=l.length) (cap:=cap) hl l.length 0 l.length m l.toArray w (UR _) hr hs (UU _) (UR _) (.inl rfl)) ?_;rintro e X ⟨rfl,d',hp,hso,rX,gX⟩;refine⟨rfl,d'.toList,?_,?_,rX,gX⟩
 ·have:=hp.2.2;rw [<- hs] at this;have h3:(d'.extract 0 l.toArray.size)=d':=by rw [<- hp.1];simp
  rw [h3] at this;simpa using this
 ·refine List.pairwise_iff_getElem.2 fun i j hi hj hij=>?_;have hi':i<d'.size:=by simpa using hi
  have hj':j<d'.size:=by simpa using hj
  have hz:d'.size=l.length:=hp.1;have h4:=hso i j (UU _) hij (by omega);rw [getElem!_pos d' i hi',getElem!_pos d' j hj'] at h4;have h4:=dF h4;rw [Array.getElem_toList,Array.getElem_toList];omega
end
theorem zpB (v:UInt8):v∈z4:=by
 unfold z4;exact UF.2 ⟨v.toNat,Uj.2 v.toNat_lt,UInt8.ofNat_toNat⟩
theorem zft {l:List UInt8} {v:UInt8}:v∈jl l↔v∈l:=by
 unfold jl;rw [QN];constructor
 ·rintro⟨_,h⟩;obtain⟨x,hx,e⟩:=Qh.1 h;rw [<- dT e];exact hx
 ·exact fun h=>⟨zpB v,Qh.2 ⟨v,h,Un rfl⟩⟩
theorem zsj:z4.Pairwise (fun x y=>x.toNat<y.toNat):=by
 unfold z4;rw [List.pairwise_map];refine List.Pairwise.imp_of_mem ?_ (List.pairwise_lt_range (n:=256));intro a b ha hb h;rw [KF,KF,Qz (Uj.1 ha),Qz (Uj.1 hb)];exact h
theorem zhv (l:List UInt8):(jl l).Pairwise (fun x y=>x.toNat<y.toNat):=List.Pairwise.filter _ zsj
theorem zfv:∀ (l:List UInt8) (p:UInt8),(∀ x∈l,p.toNat<=x.toNat)->l.Pairwise (fun x y=>x.toNat<=y.toNat)->(za4 p l).Pairwise (fun x y=>x.toNat<y.toNat)/\(∀ x,x∈za4 p l↔x∈l/\x≠p)/\∀ x∈za4 p l,p.toNat<x.toNat
 | [],p,_,_=>⟨.nil,fun x=>by simp [za4],fun x h=>by cases h⟩
 | y::r,p,hp,hs=>by
  rw [List.pairwise_cons] at hs;by_cases h:y=p
  ·subst h;obtain⟨a,b,c⟩:=zfv r y hs.1 hs.2;have e:za4 y (y::r)=za4 y r:=by show (if y=y then za4 y r else y::za4 y r)=_;rw [Gi rfl]
   rw [e];refine⟨a,fun x=>(b x).trans ⟨fun h=>⟨JW _ h.1,h.2⟩,fun h=>⟨(Uy.1 h.1).resolve_left h.2,h.2⟩⟩,c⟩
  ·obtain⟨a,b,c⟩:=zfv r y hs.1 hs.2;have e:za4 p (y::r)=y::za4 y r:=by show (if y=p then za4 p r else y::za4 y r)=_;rw [Gh h]
   rw [e];have hpy:p.toNat<y.toNat:=by
    have h1:=hp y (Kx ..);have h2:y.toNat≠p.toNat:=fun e=>h (Ub.1 e);omega
   refine⟨List.pairwise_cons.2 ⟨c,a⟩,fun x=>?_,fun x hx=>?_⟩
   ·rw [Uy,b x,Uy];constructor
    ·rintro (rfl | ⟨h1,h2⟩)
     ·exact⟨.inl rfl,h⟩
     ·refine⟨.inr h1,fun e=>?_⟩;subst e;have:=hs.1 x h1;omega
    ·rintro⟨rfl | h1,h2⟩
     ·exact .inl rfl
     ·by_cases e:x=y
      ·exact .inl e
      ·exact .inr ⟨h1,e⟩
   ·rcases Uy.1 hx with rfl | hx
    ·exact hpy
    ·have:=c x hx;omega
theorem zqa {l:List UInt8} (hs:l.Pairwise (fun x y=>x.toNat<=y.toNat)):(ded l).Pairwise (fun x y=>x.toNat<y.toNat)/\∀ x,x∈ded l↔x∈l:=by
 cases l with
 | nil=>exact⟨.nil,fun x=>Iff.rfl⟩
 | cons y r =>
  rw [List.pairwise_cons] at hs;obtain⟨a,b,c⟩:=zfv r y hs.1 hs.2;refine⟨List.pairwise_cons.2 ⟨c,a⟩,fun x=>?_⟩;show x∈y::za4 y r↔_;rw [Uy,b x,Uy];constructor
  ·rintro (h | h)
   ·exact .inl h
   ·exact .inr h.1
  ·rintro (h | h)
   ·exact .inl h
   ·by_cases e:x=y
    ·exact .inl e
    ·exact .inr ⟨h,e⟩
theorem zmn:∀ {a b:List UInt8},a.Pairwise (fun x y=>x.toNat<y.toNat)->b.Pairwise (fun x y=>x.toNat<y.toNat)->(∀ x,x∈a↔x∈b)->a=b
 | [],[],_,_,_=>rfl
 | [],y::b,_,_,h=>Gj ((h y).2 (Kx ..)) (by simp)
 | x::a,[],_,_,h=>Gj ((h x).1 (Kx ..)) (by simp)
 | x::a,y::b,ha,hb,h=>by
  rw [List.pairwise_cons] at ha hb;have e:x=y:=by
   rcases Uy.1 ((h x).1 (Kx ..)) with e | h1
   ·exact e
   ·rcases Uy.1 ((h y).2 (Kx ..)) with e | h2
    ·exact e.symm
    ·have:=hb.1 x h1;have:=ha.1 y h2;omega
  subst e;rw [zmn ha.2 hb.2 fun z=>?_];have hz:=h z;rw [Uy,Uy] at hz;constructor
  ·intro hza;rcases hz.1 (.inr hza) with e | h2
   ·subst e;have:=ha.1 z hza;omega
   ·exact h2
  ·intro hzb;rcases hz.2 (.inr hzb) with e | h2
   ·subst e;have:=hb.1 z hzb;omega
   ·exact h2
theorem zjo {l:List UInt8} (h:l.Pairwise (fun x y=>x.toNat<y.toNat)):jl l=l:=zmn (zhv l) h fun _=>zft
theorem zdP (l:List UInt8):(jl l).length<=256:=by
 refine UI (JL ..) ?_;unfold z4;rw [QI,KS];exact UR _
theorem zdp {p:OA} {cap:Nat} {l:List UInt8} {w:Wd} (hl:SlR zR w p l) (h1:1<=l.length) (hm:l.length<=60000) :
  Calls PG 71 #[.slice p l.length cap] w fun e w'=>(∃ q c,e = .returned (.slice q (jl l).length c)/\OwnS zR 5 w.heap.size w' q c (jl l))/\Bw w w':=by
 refine zF 9 [.slice p l.length cap] Tryz.func71 ?_;refine cmo (zlj hl (by omega) (fun e=>by subst e;have:=hl.none;subst this;simp at h1)) ?_;rintro e X ⟨⟨q,c,rfl,ho⟩,hbX⟩;rcases ho.inv with ⟨_,_,h0⟩ | ⟨g,cur,rfl,hB,hcur,hlc,hcm,hcs,hct⟩
 ·rw [h0] at h1;simp at h1
 have hcs:cur.size=c:=by rw [hcs];exact US _
 obtain⟨sp,hsp⟩:=nm (cur.toList.drop l.length);have hct:cur.toList.take l.length=l.flatMap zR.enc:=by rw [<- hct];congr 1;exact (US _).symm
 have hR:RowS zR 5 X g sp l:=by
  unfold RowS;rw [hcur,<- hct,hsp,JP]
 have hspl:l.length+sp.length=c:=by
  have h1:cur.toList.length=c:=by rw [Array.length_toList];exact hcs
  rw [hsp,Qq,h1];omega
 refine cmo (zsm hR hm) ?_;rintro e Y ⟨rfl,l',hp,hso,rY,gY⟩;have hlen:l'.length=l.length:=hp.length_eq;have oY:OwnS zR 5 w.heap.size Y (some ⟨g,0,none⟩) c l':=by
  unfold OwnS World.ownsRow;refine⟨by rw [qu],.inr ⟨g,c,_,rfl,hB,rY,by omega,hcm,?_,?_⟩⟩
  ·show (l'.flatMap zR.enc++sp).length=c*1;rw [lap,qu];show l'.length*1+_=_;omega
  ·exact QS (qu l')
 have c3:=zmq oY (by omega);rw [hlen] at c3;refine cmo c3 ?_;rintro e Z ⟨rfl,oZ,gZ⟩;have hwX:=hbX.size;obtain⟨d1,d2⟩:=zqa hso;have hd:ded l'=jl l:=zmn d1 (zhv l) fun x=>(d2 x).trans ((hp.mem_iff).trans zft.symm);rw [hd] at oZ ⊢;exact⟨⟨_,_,rfl,oZ⟩,(hbX.trans (zk gY hwX hB)).trans (zk gZ (UI hwX gY.size) hB)⟩
structure RowN {α:Type} (E:Enc α) (n0:Nat) (F:Nat->Prop) (X:Wd) (q:OA) (l:List α):Prop where
 row:SlR E X q l
 out:l≠[]->∀ a,q=some a->a.block<n0/\¬ F a.block
theorem RowN.keep {α:Type} {E:Enc α} {n0:Nat} {F F' G:Nat->Prop} {X Y:Wd} {q:OA} {l:List α} (h:RowN E n0 F X q l) (hn:n0<=X.heap.size) (k:KeepsG G F' X Y) (hG:∀ k,k<n0->G k->F k):RowN E n0 F' Y q l:=by
 by_cases hne:l=[]
 ·exact⟨.inl hne,fun h=>(h hne).elim⟩
 ·have r:RowF E n0 F X q l:=⟨h.row,h.out hne⟩;have r2:=r.keep hn k hG;exact⟨r2.row,fun _=>r2.out⟩
section
variable {yl n0 cap cd:Nat} {J Jx:List RunD->(Nat->Prop)->Wd->Prop} {xs:List RunD} {l:List InsD} {dom:List UInt8} {q p:OA}
theorem znI (hJ:JG n0 (fun _=>False) J) (hn0:∀ pre F X,J pre F X->n0<=X.heap.size) (hy:∀ pre x vs F W1,J pre F W1->StR (pre++[x]) vs W1->(pre++[x]) <+: xs->YieldR PG yl vs.toArray W1 fun v W2=>(v = .bool true/\∃ F',J (pre++[x]) F' W2/\KeepsG F F' W1 W2)\/(v = .bool false/\∃ F',Jx (pre++[x]) F' W2)) (ht:ThG l) (hd:dom.length<=1000) :
  ∀ (n:Nat) (S:RunD) (b:Nat) (pre:List RunD) (F:Nat->Prop) (X:Wd),l.length<=n+S.pc->RunOk l S->jw X b S->n0<=b->¬ F b->J pre F X->RowN zA n0 F X q l->RowF zR n0 F X p dom->(pre++z8 l dom n S) <+: xs ->
   Calls PG 149 #[AtR b,.slice q l.length cap,.slice p dom.length cd,.func (.yield yl) #[] #[]] X fun e Y =>
    (e = .returned (.bool true)/\∃ F',J (pre++z8 l dom n S) F' Y/\KeepsG (fun k=>F k\/k=b) F' X Y)\/(e = .returned (.bool false)/\∃ pre' F',pre' <+: xs/\Jx pre' F' Y):=by
 intro n
 induction n with
 | zero =>
  intro S b pre F X hn hS fX hb hFb hj hq hdm hpre;refine zF 41 [AtR b,.slice q l.length cap,.slice p dom.length cd,.func (.yield yl) #[] #[]] Tryz.func149 ?_;have hpc:S.pc=l.length:=by have:=hS.p;omega
  have hg:l[S.pc]?=none:=JJ (by omega);have e1:goR l l.length S=S:=zpP hg _;refine cmo (zgG fX hq.row (fun hne a ha=>by have:=(hq.out hne a ha).1;omega) ht hS) ?_;rintro e Y ⟨rfl,fY,gY,_⟩;rw [e1] at fY ⊢;rw [hg];refine brT ?_;have hjY:=hJ.step _ _ _ _ hj (StepG.grown gY (.inl hb) hFb);have hs:z8 l dom 0 S=[S]:=by show [goR l l.length S]=_;rw [e1]
  rw [hs] at hpre ⊢;refine YieldR.mono (hy pre S [AtR b] F Y hjY ⟨S,b,by simp,rfl,fY⟩ hpre) ?_;rintro v Z (⟨rfl,F',hJZ,hKZ⟩ | ⟨rfl,F',hJZ⟩)
  ·exact .inl ⟨rfl,F',hJZ,(KeepsG.grown (F:=fun k=>F k\/k=b) gY (.inr rfl)).trans (hKZ.weak fun k h => .inl h)⟩
  ·exact .inr ⟨rfl,_,F',hpre,hJZ⟩
 | succ n ih =>
  intro S b pre F X hn hS fX hb hFb hj hq hdm hpre;refine zF 41 [AtR b,.slice q l.length cap,.slice p dom.length cd,.func (.yield yl) #[] #[]] Tryz.func149 ?_;obtain⟨T,hT⟩:=nm (goR l l.length S);refine cmo (zgG fX hq.row (fun hne a ha=>by have:=(hq.out hne a ha).1;omega) ht hS) ?_;rintro e Y ⟨rfl,fY,gY,tO,tpp⟩;rw [<- hT] at fY tO tpp ⊢;have hjY:=hJ.step _ _ _ _ hj (StepG.grown gY (.inl hb) hFb);have hXn:=hn0 _ _ _ hj;have kY:KeepsG (fun k=>F k\/k=b) F X Y:=⟨gY.os,gY.tape,gY.output,gY.size,fun k hk hf=>gY.block k hk (fun e=>hf (.inr (by cases e;rfl))),fun k h => .inl (.inl h)⟩;have hqY:=hq.keep hXn kY (fun k hk h=>h.resolve_right (by omega));have hdY:=hdm.keep hXn kY (fun k hk h=>h.resolve_right (by omega))
  cases hg:l[T.pc]? with
  | none =>
   refine brT ?_;have hs:z8 l dom (n+1) S=[T]:=by
    show (match l[(goR l l.length S).pc]? with | none=>[goR l l.length S] | some x=>_)=_;rw [<- hT,hg]
   rw [hs] at hpre ⊢;refine YieldR.mono (hy pre T [AtR b] F Y hjY ⟨T,b,by simp,rfl,fY⟩ hpre) ?_;rintro v Z (⟨rfl,F',hJZ,hKZ⟩ | ⟨rfl,F',hJZ⟩)
   ·exact .inl ⟨rfl,F',hJZ,kY.trans hKZ⟩
   ·exact .inr ⟨rfl,_,F',hpre,hJZ⟩
  | some x =>
   have hi:T.pc<l.length:=(Jr.1 hg).1;have hxe:l[T.pc]=x:=by rw [gE hi] at hg;exact Ua hg
   have hxi:=(ht.2 _ _ hg).1;refine brF ?_;have hs:z8 l dom (n+1) S=dom.flatMap fun v=>z8 l dom n (qh T x v):=by
    show (match l[(goR l l.length S).pc]? with | none=>[goR l l.length S] | some x=>_)=_;rw [<- hT,hg]
   rw [hs] at hpre ⊢;refine⟨Nat×(Nat->Prop),fun s=>⟨[(0,AtR b),(1,.slice q l.length cap),(2,.slice p dom.length cd),(3,.func (.yield yl) #[] #[]),(19,.slice p dom.length cd),(20,i64 dom.length),(21,i64 (s.1:Nat))],[]⟩,
    fun s Z=>s.1<=dom.length/\J (pre++(dom.take s.1).flatMap fun v=>z8 l dom n (qh T x v)) s.2 Z/\jw Z b T/\¬ s.2 b/\RowN zA n0 s.2 Z q l/\RowF zR n0 s.2 Z p dom/\KeepsG (fun k=>F k\/k=b) s.2 X Z,fun s=>dom.length-s.1,(0,F),
    (cvE rfl rfl),⟨UU _,by rw [Uk];show J (pre++[]) F Y;rw [QF];exact hjY,fY,hFb,hqY,hdY,kY⟩,?_⟩
   clear fY gY hjY hqY hdY kY;rintro⟨k,G⟩ Z ⟨hk,hjZ,fZ,hGb,hqZ,hdZ,kZ⟩;dsimp only at hk hjZ hGb hqZ hdZ kZ ⊢;have hZn:=hn0 _ _ _ hjZ;refine biE (fun hc=>?_) fun hc=>?_
   ·have hc:(k:Int)<(dom.length:Int):=dT hc;have hkd:k<dom.length:=(by omega);obtain⟨bp,op,hpe,hlp,hatp⟩:=hdZ.row.at hkd;have hqr:=hqZ;obtain⟨bq,oq,hqe,hlq,hatq⟩:=hqZ.row.at hi;have ep:some (Value.slice p dom.length cd)=some (Value.slice (some ⟨bp,op,none⟩) dom.length cd):=(by rw [hpe]);subst hpe;refine⟨k,rfl,hkd,u8 dom[k],by have:=zc (hatp k hkd) (i:=0) (v:=u8 dom[k]) rfl;exact this,qO T,jB _,za fZ,hlt fZ,zo (X:=Z) (v := .agg (qO T).toArray) zuI (jB _) znz (zpd _) fun V hbV fV sV=>?_⟩;subst hqe;have fV:jw V Z.heap.size T:=fV;refine⟨_,zc (za fV) (i:=0) rfl,T.pc,rfl,hi,zA.enc x,rfl,by rw [<- hxe];exact zr hbV (hatq T.pc hi),nL hlq hbV.size,cmo (zhq (v:=dom[k]) fV tO.s (by have:=tO.m;have:=ht.1;omega) (by have:=ht.1;omega) hxi) ?_⟩;rintro e U ⟨rfl,fU,gU⟩;obtain⟨x1,x2⟩:=zeS (v:=dom[k]) ht tO hg;have hGn:¬ G Z.heap.size:=fun h=>by have:=(hJ.lt _ _ _ _ hjZ h).1;omega
    have hjU:=hJ.step _ _ _ _ (hJ.step _ _ _ _ hjZ (StepG.below hbV)) (StepG.grown gU (.inl hZn) hGn);have hbU:Bw Z U:=hbV.trans (zk gU hbV.size (UR _));have kU:KeepsG G G Z U:=KeepsG.below hbU fun k h => .inl h;have hqU:=hqr.keep hZn kU (fun k _ h=>h);have hdU:=hdZ.keep hZn kU (fun k _ h=>h);have hdk:dom.flatMap (fun v=>z8 l dom n (qh T x v))=(dom.take k).flatMap (fun v=>z8 l dom n (qh T x v))++(z8 l dom n (qh T x dom[k])++(dom.drop (k+1)).flatMap fun v=>z8 l dom n (qh T x v)):=by
     have e:dom=dom.take k++dom[k]::dom.drop (k+1):=(by rw [JE,JP]);have e2:(dom.take k++dom[k]::dom.drop (k+1)).flatMap (fun v=>z8 l dom n (qh T x v))=(dom.take k).flatMap (fun v=>z8 l dom n (qh T x v))++(z8 l dom n (qh T x dom[k])++(dom.drop (k+1)).flatMap fun v=>z8 l dom n (qh T x v)):=by
      rw [Ke,KO]
     rw [<- e] at e2;exact e2
    have hpk:((pre++(dom.take k).flatMap fun v=>z8 l dom n (qh T x v))++z8 l dom n (qh T x dom[k])) <+: xs:=by
     refine List.IsPrefix.trans ?_ hpre;rw [hdk];exact⟨(dom.drop (k+1)).flatMap fun v=>z8 l dom n (qh T x v),by simp only [KL]⟩
    have htk:(dom.take (k+1)).flatMap (fun v=>z8 l dom n (qh T x v))=(dom.take k).flatMap (fun v=>z8 l dom n (qh T x v))++z8 l dom n (qh T x dom[k]):=by
     rw [tsg hkd,Ke,KO,Qm,QF]
    refine cmo (ih (qh T x dom[k]) Z.heap.size (pre++(dom.take k).flatMap fun v=>z8 l dom n (qh T x v)) G U (by omega) x1 fU hZn hGn hjU hqU hdU hpk) ?_;rintro e V' (⟨rfl,F',hjV,kV⟩ | ⟨rfl,pre',F',hp',hjx⟩)
    ·refine brF ?_;have kW:KeepsG G F' Z V':=⟨kV.os.trans kU.os,kV.tape.trans kU.tape,kV.output.trans kU.output,UI kU.size kV.size,fun i hi hf=>(kV.same i (nL hi kU.size) (fun h=>by
      rcases h with h | h
      ·exact hf h
      ·omega)).trans (kU.same i hi hf),fun i h=>by
      have:=kU.size;rcases kV.fp i h with (h2 | h2) | h2
      ·exact .inl h2
      ·exact .inr (by omega)
      ·exact .inr (by omega)⟩
     have hbZ:=hlt fZ;refine nxI (by omega) ⟨(k+1,F'),(cvE rfl rfl),⟨hkd,?_,(kW.same b hbZ hGb).trans fZ,fun h=>?_,hqr.keep hZn kW (fun _ _ h=>h),hdZ.keep hZn kW (fun _ _ h=>h),kZ.trans kW⟩,zdc (by omega)⟩
     ·show J (pre++(dom.take (k+1)).flatMap fun v=>z8 l dom n (qh T x v)) F' V';rw [htk,<- KL];exact hjV
     ·rcases kW.fp b h with h2 | h2
      ·exact hGb h2
      ·omega
    ·exact brT (.inr ⟨rfl,pre',F',hp',hjx⟩)
   ·have hc:¬ (k:Int)<(dom.length:Int):=dF hc;obtain rfl:k=dom.length:=(by omega);rw [Qt] at hjZ;exact .inl ⟨rfl,G,hjZ,kZ⟩
theorem zjm {bi bd:Nat} {W0:Wd} (hl:SlR zA W0 q l) (hp:SlR zR W0 p dom) (fi:W0.heap[bi]?=some (.cells #[.slice q l.length cap] 51 (0,0))) (fd:W0.heap[bd]?=some (.cells #[.slice p dom.length cd] 23 (0,0))) (hql:l≠[]->∀ a,q=some a->a.block<W0.heap.size) (hpl:∀ a,p=some a->a.block<W0.heap.size) (ht:ThG l) (hd:dom.length<=1000) :
  ziJ PG 148 [AtR bi,AtR bd] (qA l dom) W0 (fun k=>(k=bi\/k=bd)\/(l≠[]/\∃ a,q=some a/\k=a.block)\/∃ a,p=some a/\k=a.block) (fun _=>False) StR:=by
 intro yl F0 J Jx W hsz hrd hrf hJ hJx hy h0;refine zF 9 [.func (.yield yl) #[] #[],AtR bi,AtR bd] Tryz.func148 ?_;obtain⟨X,hX⟩:=nm (W.alloc (.cells (qO zi0).toArray 189));have hbX:Bw W X:=by rw [hX];exact (zba W _)
 have fX:jw X W.heap.size zi0:=by rw [hX];exact zy W _
 have ez:zmr=qO zi0:=by kernel_rfl
 have hX':W.alloc (.cells (zmr).toArray 189)=X:=by rw [hX,ez]
 have fiW:=(hrd bi (.inl (.inl (.inl rfl)))).trans fi;have fdW:=(hrd bd (.inl (.inl (.inr rfl)))).trans fd;have hjX:=hJ.step _ _ _ _ h0 (StepG.below hbX);have hF:¬ F0 W.heap.size:=fun h=>by have:=(hJ.lt _ _ _ _ h0 h).1;omega
 have hlX:RowN zA W.heap.size F0 X q l:=by
  by_cases hne:l=[]
  ·exact⟨.inl hne,fun h=>(h hne).elim⟩
  ·exact⟨je hl fun a ha=>(hbX.block _ (by have:=hql hne a ha;omega)).trans (hrd _ (.inl (.inr (.inl ⟨hne,a,ha,rfl⟩)))),fun _ a ha=>⟨by have:=hql hne a ha;omega,hrf _ (.inr (.inl ⟨hne,a,ha,rfl⟩))⟩⟩
 have hpX:RowF zR W.heap.size F0 X p dom:=⟨je hp fun a ha=>(hbX.block _ (by have:=hpl a ha;omega)).trans (hrd _ (.inl (.inr (.inr ⟨a,ha,rfl⟩)))),fun a ha=>⟨by have:=hpl a ha;omega,hrf _ (.inr (.inr ⟨a,ha,rfl⟩))⟩⟩;refine⟨_,by rw [hX'];exact zc (za (zb hbX fiW)) (i:=0) rfl,_,by rw [hX'];exact zc (za (zb hbX fdW)) (i:=0) rfl,?_⟩;rw [hX'];have hJn:JG W.heap.size (fun _=>False) (fun pre F Z=>J pre F Z/\W.heap.size<=Z.heap.size):=⟨fun s F A B ⟨h,hn⟩ hs=>⟨hJ.step _ _ _ _ h hs,UI hn hs.size⟩,fun s F A k ⟨h,_⟩ hk=>hJ.lt _ _ _ _ h hk⟩;refine cmo (znI (xs:=qA l dom) (Jx:=Jx) hJn (fun _ _ _ h=>h.2) (fun pre x vs F W1 ⟨hj,hn⟩ hst hpre=>YieldR.mono (hy pre x vs F W1 hj hst hpre) fun v W2 h=>?_) ht hd l.length zi0 W.heap.size [] F0 X (UR _) (zmD l) fX (UR _) hF ⟨hjX,hbX.size⟩ hlX hpX (List.prefix_refl _)) ?_
 ·rcases h with ⟨rfl,F',h1,h2⟩ | h
  ·exact .inl ⟨rfl,F',⟨h1,UI hn h2.size⟩,h2⟩
  ·exact .inr h
 ·rintro e Y (⟨rfl,F',⟨hj,_⟩,_⟩ | ⟨rfl,pre',F',h1,h2⟩)
  ·exact⟨⟨_,rfl⟩,.inl ⟨F',hj⟩⟩
  ·exact⟨⟨_,rfl⟩,.inr ⟨pre',F',h1,h2⟩⟩
end
end Go.Proofs.YtkpaomeeknegpaaGreatDoor
