/- Contracts of functions, and plain facts, for the law that the last text of this claim proves. -/
import Derived.Test.YtpalcnbhkigagaaGreatDoorH4
import Derived.Test.YtpalcnbhkigagaaGreatDoorH2
import Derived.Test.YtpalcnbhkigagaaGreatDoorH3
import Derived.Sort.AssemblyPlain
set_option linter.unusedSimpArgs false
set_option linter.unusedVariables false
namespace Go.Proofs.YtpalcnbhkigagaaGreatDoor
open Go.Vc Go.RowKit Go.Sei
theorem zjK {locs:Nat}:∀ (ev:List Ev) (i:Nat) (t:Int) (n:Nat),zjM locs i ev t n=true->∀ j,i+j<locs->j<ev.length->∃ v,ev.getD j ev0=⟨-1,2,UInt8.ofNat (i+j),v,0,0,0⟩
 | [],_,_,_,_,_,_,h=>by simp at h
 | e::ev,i,t,n,h,j,hj,hl=>by
  unfold zjM at h;rw [Gr (by omega:i<locs)] at h;by_cases he:e=⟨-1,2,UInt8.ofNat i,e.v,0,0,0⟩
  ·rw [Gr he] at h
   cases j with
   | zero=>exact⟨e.v,by rw [UN];exact he⟩
   | succ j =>
    obtain⟨v,hv⟩:=zjK ev (i+1) t n h j (by omega) (by simpa using hl);exact⟨v,by rw [show i+(j+1)=i+1+j by omega];exact hv⟩
  ·rw [Gq he] at h;cases h
theorem zog (ev:List Ev):jb ev<=ev.length:=by
 unfold jb
 induction ev with
 | nil=>exact UY _
 | cons e ev ih =>
  rw [Kr]
  split
  ·rw [Qv,Qv];omega
  ·exact Gb _
theorem znb {x:ExD} {locs:Nat} (h:jF x.ev locs=true) (hl:locs<=x.ev.length) (h6:locs<=6):∀ l,l<locs->zW x l≠[]:=by
 intro l hll he;obtain⟨v,hv⟩:=zjK x.ev 0 0 0 h l (by omega) (by omega);have:l∈zW x l:=by
  unfold zW;rw [QV,Uq];refine⟨by omega,?_⟩;have h2:evA x l=⟨-1,2,UInt8.ofNat (0+l),v,0,0,0⟩:=hv;rw [h2,bAT,dE,dE];refine⟨rfl,?_⟩;show (UInt8.ofNat (0+l)).toNat=l;rw [UT,KK];exact QF (by omega)
 rw [he] at this
 cases this
abbrev zcB (x:ExD):List RelD:=[x.po,x.rf,x.co,x.dt,x.ct,x.rm]
theorem zpY (x:ExD) (q:OA) (c:Nat) {i:Nat} (hi:i<6):((exC x q c).drop (1+49*i)).take 49=zj ((zcB x).getD i x.po):=by
 have g:∀ {A T:List Value} {o:Nat} {r:RelD},A.length=o->exC x q c=A++(zj r++T)->((exC x q c).drop o).take 49=zj r:=fun {A T o r} hA hE=>by
  rw [hE,<- hA,Un,Jh (by rw [zk];decide),JJ (by rw [zk];decide)]
 match i,hi with
 | 0,_=>obtain⟨A,T,hA,hE⟩:=zon x q c [];exact g hA (by rw [<- hE,QM];rfl)
 | 1,_=>obtain⟨A,T,hA,hE⟩:=zom x q c [];exact g hA (by rw [<- hE,QM];rfl)
 | 2,_=>obtain⟨A,T,hA,hE⟩:=zor x q c [];exact g hA (by rw [<- hE,QM];rfl)
 | 3,_=>obtain⟨A,T,hA,hE⟩:=zop x q c [];exact g hA (by rw [<- hE,QM];rfl)
 | 4,_=>obtain⟨A,T,hA,hE⟩:=zoq x q c [];exact g hA (by rw [<- hE,QM];rfl)
 | 5,_=>obtain⟨A,T,hA,hE⟩:=zol x q c [];exact g hA (by rw [<- hE,QM];rfl)
theorem zpr (L:Nat) {k:Nat} (hk:k<6):((List.range 6).map (fun i=>Value.pointer (some ⟨L,0+(1+49*i),none⟩)))[k]?=some (.pointer (some ⟨L,0+(1+49*k),none⟩)):=by
 rw [KX,Kk hk];rfl
def okX (x:ExD) (r:RelD):Bool:=decide (r.n=x.ev.length)&&okR r
section
variable {c:Nat} {x:ExD} {q:OA} {w:Wd}
theorem zeB {X:Wd} {b:Nat} (fx:ExH X b x q c) {i:Nat} (hi:i<6):zx X ⟨b,0+(1+49*i),none⟩ (zj ((zcB x).getD i x.po)):=by
 have h:=zK (n:=1+49*i) (m:=49) (za fx);rw [show (exC x q c).toArray.toList=exC x q c from rfl,zpY x q c hi] at h;exact h
theorem ExW.rel (hv:ExW w x q) {i:Nat} (hi:i<6):zX ((zcB x).getD i x.po).to:=by
 match i,hi with
 | 0,_=>exact hv.po
 | 1,_=>exact hv.rf
 | 2,_=>exact hv.co
 | 3,_=>exact hv.dt
 | 4,_=>exact hv.ct
 | 5,_=>exact hv.rm
theorem zo5 (hv:ExW w x q) (hT:Tz64M w):CB 14 #[.agg (exC x q c).toArray] w (.bool (zbu x)):=by
 refine qX 70 [.agg (exC x q c).toArray] (.c .p (.c .p (.c .p (.c .p (.c .p .p))))) Tryz.func14 ?_;obtain⟨L,hL⟩:=nm (w.heap.size);have hn:=hv.n;refine⟨Unit,fun _=>⟨[(1,At0 L)],[]⟩,fun _ X=>ExH X L x q c/\Bw w X,⟨(),⟨.cons (by rw [hL];rfl) .nil,rfl⟩,by rw [hL];exact zz w _,(zba w _)⟩,?_⟩;rintro _ X ⟨fx,hbX⟩;obtain⟨n,hnn⟩:=nm (jb x.ev);refine⟨Unit,fun _=>⟨[(1,At0 L)],[]⟩,fun _ Y=>X=Y,?_,?_⟩
 ·refine⟨_,zc (za fx) (i:=0) rfl,biE (fun h=>?_) fun _=>?_⟩
  ·have h:(48:Int)<(x.ev.length:Nat):=dT h;omega
  exact⟨(),(cvE rfl rfl),rfl⟩
 rintro _ _ rfl;refine⟨Unit,fun _=>⟨[(1,At0 L),(3,i64 (n:Nat))],[]⟩,fun _ Y=>Bw X Y,?_,?_⟩
 ·refine⟨_,zc (za fx) (i:=0) rfl,cmo (zkN (hv.below hbX).ev (by omega)) ?_⟩;rintro e Y ⟨rfl,hbY⟩;rw [<- hnn];exact⟨(),(cvE rfl rfl),hbY⟩
 rintro _ Y hbY;have hvX:=hv.below hbX;have hnl:n<=x.ev.length:=by rw [hnn];exact zog _
 have hbwY:=zst hbX hbY;have hr0:decide (x.ev.length<=48)=true:=Uu (by omega);have no:∀ {Z:Wd},Bw w Z->zbu x=false->(Ending.returned (.bool false)=Ending.returned (.bool (zbu x))/\Bw w Z):=fun {Z} hb h=>⟨rb h.symm,hb⟩;refine⟨Unit,fun _=>⟨[(1,At0 L),(3,i64 (n:Nat))],[]⟩,fun _ Z=>jF x.ev n=true/\(1<=n/\n<=6)/\ExH Z L x q c/\Bw w Z,?_,?_⟩
 ·refine biE (fun h1=>?_) fun h1=>?_
  ·have h1:(n:Int)<1:=dT h1;refine brT (brT (no hbwY ?_));unfold zbu;rw [<- hnn,Uj (by omega:¬ 1<=n),Ul,Uk]
  have h1:¬ (n:Int)<1:=dF h1;refine biE (fun h2=>?_) fun h2=>?_
  ·have h2:(6:Int)<(n:Int):=dT h2;refine brT (no hbwY ?_);unfold zbu;rw [<- hnn,Uj (by omega:¬ n<=6),Ul,Uk,Uk]
  have h2:¬ (6:Int)<(n:Int):=dF h2;have hn1:decide (1<=n)=true:=Uu (by omega);have hn6:decide (n<=6)=true:=Uu (by omega);have fY:=zb hbY fx;refine⟨_,zc (za fY) (i:=0) rfl,cmo (zgV (locs:=n) (hvX.below hbY).ev (by omega) (by omega)) ?_⟩;rintro e Z ⟨rfl,hbZ⟩;have hbwZ:=zst hbwY hbZ;refine biE (fun h3=>?_) fun h3=>?_
  ·have h3:jF x.ev n=false:=by
    have h3:(!jF x.ev n)=true:=h3;simpa using h3
   refine no hbwZ ?_;unfold zbu;rw [<- hnn,h3,Ul,Uk,Uk,Uk]
  have h3:jF x.ev n=true:=by
   have h3:(!jF x.ev n)=false:=h3;simpa using h3
  exact⟨(),(cvE rfl rfl),h3,by omega,zb hbZ fY,hbwZ⟩
 rintro _ Z ⟨h3,⟨h1,h2⟩,fZ,hbwZ⟩;clear fx hbX hbY hbwY hvX;have hn1:decide (1<=n)=true:=Uu h1;have hn6:decide (n<=6)=true:=Uu h2;have hright:zbu x=(zb4 x&&(qM x.po (poR x.ev)&&(zaj x&&(zam x n&&za2 x)))):=by
  unfold zbu;rw [<- hnn,hr0,hn1,hn6,h3];rfl
 have hrels:zb4 x=(zcB x).all (okX x):=rfl;refine⟨Unit,fun _=>⟨[(1,At0 L),(3,i64 (n:Nat))],[]⟩,fun _ U=>zb4 x=true/\ExH U L x q c/\Bw w U,?_,?_⟩
 ·refine⟨⟨by decide,by decide,rfl⟩,(List.range 6).map (fun i=>Value.pointer (some ⟨L,0+(1+49*i),none⟩)),rfl,?_⟩;obtain⟨g,hg⟩:=nm (Z.heap.size);refine⟨Nat,fun k=>⟨[(1,At0 L),(3,i64 (n:Nat)),(32,.slice (some ⟨g,0,none⟩) 6 6),(33,i64 6),(34,i64 (k:Nat))],[]⟩,fun k U=>k<=6/\((zcB x).take k).all (okX x)=true/\U.heap[g]?=some (.cells ((List.range 6).map (fun i=>Value.pointer (some ⟨L,0+(1+49*i),none⟩))).toArray 95 (0,0))/\ExH U L x q c/\Bw w U,fun k=>6-k,0,
   ⟨.cons rfl (.cons rfl (.cons (by rw [hg];rfl) (.cons rfl (.cons rfl .nil)))),rfl⟩,⟨Gb _,rfl,by rw [hg];exact zz Z _,qG _ fZ,hbwZ.alloc hbwZ.size _⟩,?_⟩
  clear hg fZ hbwZ;rintro k U ⟨hk,hall,fg,fU,hbU⟩;dsimp only;refine biE (fun hc=>?_) fun hc=>?_
  ·have hc:(k:Int)<6:=dT hc;have hk6:k<6:=by omega
   obtain⟨r,hr⟩:=nm ((zcB x).getD k x.po);have hkl:k<(zcB x).length:=hk6;have htk:(zcB x).take (k+1)=(zcB x).take k++[r]:=by
    rw [tsg hkl,hr,gDe,gE hkl];rfl
   have hrw:zX r.to:=by rw [hr];exact hv.rel hk6
   have hcel:zx U ⟨L,0+(1+49*k),none⟩ (zj r):=by rw [hr];exact zeB fU hk6
   have dU:Bw U U.drew:=(Gd _ _).drew;have hrm:r∈zcB x:=by
    rw [hr,gDe,gE hkl];exact gM hkl
   have bad:∀ {Z:Wd},Bw w Z->okX x r=false->(Ending.returned (.bool false)=Ending.returned (.bool (zbu x))/\Bw w Z):=fun {Z} hb h=>no hb (by
    have:zb4 x=false:=by
     rw [hrels,KQ];exact⟨r,hrm,by rw [h];decide⟩
    rw [hright,this];rfl)
   refine⟨k,rfl,hk6,?_⟩;refine⟨.pointer (some ⟨L,0+(1+49*k),none⟩),by
    have:=zc (za fg) (i:=k*1) (v := .pointer (some ⟨L,0+(1+49*k),none⟩)) (by
     rw [UZ];exact zpr L hk6)
    exact this,?_⟩
   refine DrawE.ord [] [0,1,2,3,4,5,6,7,8,9,10,11,12,13,14] (by kernel_rfl) ⟨i64 r.n,zc (zm dU hcel) (i:=0) rfl,_,zc (za (hdr fU)) (i:=0) rfl,biE (fun h4=>?_) fun h4=>?_⟩
   ·have h4:(!decide (r.n=(x.ev.length:Int)))=true:=h4;have h4:¬ r.n=(x.ev.length:Int):=(by simpa using h4);exact brT (bad ((zst hbU dU)) (by unfold okX;rw [Uj h4];rfl))
   have h4:(!decide (r.n=(x.ev.length:Int)))=false:=h4;have h4:r.n=(x.ev.length:Int):=by simpa using h4
   refine⟨zj r,zk _,zm dU hcel,hlt (hdr fU),cmo (zaZ hrw) ?_⟩;rintro e V ⟨rfl,hbV⟩;refine⟨hbV,?_⟩;have hbV2:=hbU.trans ((dU.trans hbV).mono hbU.size);refine biE (fun h5=>?_) fun h5=>?_
   ·have h5:okR r=false:=by
     have h5:(!okR r)=true:=h5;simpa using h5
    exact bad hbV2 (by unfold okX;rw [h5,Uk])
   have h5:okR r=true:=by
    have h5:(!okR r)=false:=h5;simpa using h5
   refine nxI (by omega) ⟨k+1,(cvE rfl rfl),⟨hk6,?_,zb (dU.trans hbV) fg,zb (dU.trans hbV) fU,hbV2⟩,zdc (by omega)⟩;rw [htk,QL,hall];show (true&&(okX x r&&true))=true;unfold okX;rw [Uu h4,h5];rfl
  ·have hc:¬ (k:Int)<6:=dF hc;obtain rfl:k=6:=by omega
   exact⟨(),(cvE rfl rfl),hall,fU,hbU⟩
 rintro _ U ⟨hrr,fU,hbU⟩;rw [hrr,UA] at hright;have hall:∀ r∈zcB x,r.n=x.ev.length/\okR r=true:=fun r hr=>by
  rw [hrels,Qm] at hrr;have:=hrr r hr;unfold okX at this;rw [bAT,dE] at this;exact this
 have hrf:=hall x.rf (by simp);have hrm:=hall x.rm (by simp);have hvU:=hv.below hbU;have dU:Bw U U.drew:=(Gd _ _).drew;have hvD:=hvU.below dU;have hbD:=zst hbU dU;refine DrawE.ord [] [0,1,2,3,4,5,6,7,8,9,10,11,12,13,14,15,16] (by kernel_rfl) ⟨zj x.po,zk _,zeB (hdr fU) (i:=0) (by decide),hlt (hdr fU),_,zc (za (hdr fU)) (i:=0) rfl,cmo (zcL hvD.ev (by omega)) ?_⟩;rintro e V ⟨rfl,hbV⟩;refine⟨hbV,?_⟩;have hbV2:=zst hbD hbV;have fV:=zb hbV (hdr fU);have hvV:=hvD.below hbV;refine⟨_,fun w=>zbh _ _ x.po (poR x.ev) w,biE (fun h4=>?_) fun h4=>?_⟩
 ·have h4:qM x.po (poR x.ev)=true:=h4;rw [h4,UA] at hright;refine cmo (zmw fV hvV hrf.1 hrf.2 (hT.below hbV2)) ?_;rintro e T ⟨rfl,hbT⟩;refine⟨hbT,?_⟩;have hbT2:=zst hbV2 hbT;refine biE (fun h5=>?_) fun h5=>?_
  ·have h5:zaj x=true:=h5;rw [h5,UA] at hright;refine cmo (zmV (locs:=n) (zb hbT fV) (hvV.below hbT) (by omega) (znb h3 hnl (by omega)) (hT.below hbT2)) ?_;rintro e R ⟨rfl,hbR⟩;refine⟨hbR,?_⟩;have hbR2:=zst hbT2 hbR;refine biE (fun h6=>?_) fun h6=>?_
   ·have h6:zam x n=true:=h6;rw [h6,UA] at hright;refine cmo (zkW (zb hbR (zb hbT fV)) ((hvV.below hbT).below hbR) hrm.1 hrm.2 (hT.below hbR2)) ?_;rintro e Q ⟨rfl,hbQ⟩;exact⟨hbQ,rb hright.symm,(zst hbR2 hbQ)⟩
   ·have h6:zam x n=false:=h6;rw [h6,Ul] at hright;exact⟨rb hright.symm,hbR2⟩
  ·have h5:zaj x=false:=h5;rw [h5,Ul] at hright;exact brF ⟨rb hright.symm,hbT2⟩
 ·have h4:qM x.po (poR x.ev)=false:=h4;rw [h4,Ul] at hright;exact brF (brF ⟨rb hright.symm,hbV2⟩)
theorem zo4 (hv:ExV w x q) (hT:Tz64M w):CB 14 #[.agg (exC x q c).toArray] w (.bool (zbu x)):=zo5 hv.w hT
end
section
variable {b c:Nat} {x:ExD} {q:OA}
theorem jJ {X:Wd} (fx:zx X ⟨b,0,none⟩ (exC x q c)):X.cell? ⟨b,0+0,none⟩=some (.slice q x.ev.length c):=zc fx (i:=0) rfl
end
section
variable {b c:Nat} {x:ExD} {q:OA}
theorem zaP {X:Wd} (fx:ExH X b x q c) {i:Nat} (hi:i<6) {o:Nat} (ho:o=1+49*i):zx X ⟨b,0+o,none⟩ (zj ((zcB x).getD i x.po)):=by
 rw [ho];exact zeB fx hi
end
theorem zc2 {r:RelD} (h:ziT r=true):zX r.to:=by
 unfold ziT at h;rw [Qm] at h;exact fun i hi=>dT (h i (Uq.2 hi))
theorem zcr {x:ExD} {q:OA} {X:Wd} (hv:SlR evE X q x.ev) (h:0<x.ev.length):∃ bq oq,q=some ⟨bq,oq,none⟩/\bq<X.heap.size/\∀ i,i<x.ev.length->zx X ⟨bq,oq+i*7,none⟩ (evE.enc (evA x i)):=by
 obtain⟨b,o,hq,hb,hat⟩:=hv.at h;refine⟨b,o,hq,hb,fun i hi=>?_⟩;have:=hat i hi;unfold evA;rw [gDe,gE hi];exact this
theorem zr7 {X:Wd} {b:Nat} {x:ExD} {q:OA} {c:Nat} (fx:ExH X b x q c):zx X ⟨b,0+1,none⟩ (zj x.po):=zaP fx (i:=0) (by decide) rfl
theorem zr6 {X:Wd} {b:Nat} {x:ExD} {q:OA} {c:Nat} (fx:ExH X b x q c):zx X ⟨b,0+50,none⟩ (zj x.rf):=zaP fx (i:=1) (by decide) rfl
theorem zkB {X:Wd} {b:Nat} {x:ExD} {q:OA} {c:Nat} (fx:ExH X b x q c):zx X ⟨b,0+99,none⟩ (zj x.co):=zaP fx (i:=2) (by decide) rfl
theorem zr8 {X:Wd} {b:Nat} {x:ExD} {q:OA} {c:Nat} (fx:ExH X b x q c):zx X ⟨b,0+148,none⟩ (zj x.dt):=zaP fx (i:=3) (by decide) rfl
theorem zr9 {X:Wd} {b:Nat} {x:ExD} {q:OA} {c:Nat} (fx:ExH X b x q c):zx X ⟨b,0+197,none⟩ (zj x.ct):=zaP fx (i:=4) (by decide) rfl
theorem zr5 {X:Wd} {b:Nat} {x:ExD} {q:OA} {c:Nat} (fx:ExH X b x q c):zx X ⟨b,0+246,none⟩ (zj x.rm):=zaP fx (i:=5) (by decide) rfl
theorem zpA {p:Bool} (h:(!p)=true):p=false:=by simpa using h
theorem zju {p:Bool} (h:(!p)=false):p=true:=by simpa using h
theorem zpX {X:Wd} {b:Nat} {x:ExD} {q:OA} {c l:Nat} (fx:zx X ⟨b,0,none⟩ (exC x q c)) (hl:l<6):X.cell? ⟨b,0+295+32+l*1,none⟩=some (u8 (x.mem l)):=by
 have h:=zlU (x:=x) q c;have h2:(exC x q c)[327+l]?=some (u8 (x.mem l)):=by
  have h3:(((exC x q c).drop 327).take 6)[l]?=some (u8 (x.mem l)):=by
   rw [h];unfold seg;rw [KX,Kk hl];rfl
  rw [List.getElem?_take_of_lt hl,Kz] at h3;exact h3
 have h4:=zc fx h2;rw [show 0+(327+l)=0+295+32+l*1 by omega] at h4;exact h4
def zrh (x:ExD):Bool:=decide (x.ev.length<=20)&&(ziT x.po&&(ziT x.rf&&(ziT x.co&&(ziT x.dt&&(ziT x.ct&&ziT x.rm)))))
theorem zpT {X:Wd} {x:ExD} {q:OA} (h:zrh x=true) (he:SlR evE X q x.ev):ExV X x q:=by
 unfold zrh at h;simp only [bAT,dE] at h;obtain⟨h1,h2,h3,h4,h5,h6,h7⟩:=h;exact⟨he,h1,zc2 h2,zc2 h3,zc2 h4,zc2 h5,zc2 h6,zc2 h7⟩
def zbY (x:ExD):List Value:=seg 32 (fun i=>u8 (x.regs i))++seg 6 (fun i=>u8 (x.mem i))
theorem zcS (x:ExD):(zbY x).length=38:=by unfold zbY;rw [lap,zw,zw]
def zgv (x y:ExD):Bool:=(List.range 32).all (fun i=>decide (x.regs i=y.regs i))&&(List.range 6).all (fun i=>decide (x.mem i=y.mem i))
theorem zhg {m n:Nat} {f:Nat->UInt8} {i j:Nat} (hi:i<m) (h:m*n<=1000) (hj:j<n):zY (zY (seg (m*n) (fun i=>u8 (f i))) (i*n) n) (j*1) 1=[u8 (f (i*n+j))]:=by
 have hlt:i*n+j<m*n:=by
  have:(i+1)*n<=m*n:=Kf n hi;rw [US] at this;omega
 apply KT;intro k;unfold zY;rw [UZ]
 cases k with
 | zero =>
  rw [List.getElem?_take_of_lt (by decide),Kz,UN,List.getElem?_take_of_lt hj,Kz,zbo _ hlt];rfl
 | succ k =>
  rw [JM (by rw [Qx];omega),JM (by simp)]
theorem zr3:∃ G,TyEq PG 53 true 38 4 G/\∀ x:ExD,G (zbY x):=by
 have r8:TyEq PG 49 true 8 2 _ := .array (m:=8) (by decide) Tryz.underlying49 (fun w=>Tryz.isAgg49 w) (qI (by kernel_rfl) (by kernel_rfl)).1 (by kernel_rfl) tU8;have r32:TyEq PG 50 true 32 3 _ := .array (m:=4) (by decide) Tryz.underlying50 (fun w=>Tryz.isAgg50 w) (qI (by kernel_rfl) (by kernel_rfl)).1 (by kernel_rfl) r8;have r6:TyEq PG 51 true 6 2 _ := .array (m:=6) (by decide) Tryz.underlying51 (fun w=>Tryz.isAgg51 w) (qI (by kernel_rfl) (by kernel_rfl)).1 (by kernel_rfl) tU8;refine⟨_,.struct (uf Tryz.underlying53).1 (by kernel_rfl) (fun w=>Tryz.isAgg53 w) (qI (by kernel_rfl) (by kernel_rfl)).1 (by kernel_rfl)
  (by rw [(uf Tryz.underlying53).2];exact .cons (by decide) rfl r32 (.cons (by decide) rfl (r6.up 1) .nil)),fun x=>?_⟩
 have e0:zY (zbY x) 0 32=seg (4*8) fun i=>u8 (x.regs i):=by
  unfold zbY zY;rw [Uo,Jh (by rw [zw];decide),JJ (by rw [zw];decide)]
 have e1:zY (zbY x) 32 6=seg (1*6) fun i=>u8 (x.mem i):=by
  unfold zbY zY;rw [Jf (by rw [zw];decide),JE (by rw [zw];decide),QW,JJ (by rw [zw];decide)]
 refine⟨?_,?_,trivial⟩
 ·show ∀ i,i<4->∀ j,j<8->zrM .u8 (zY (zY (zY (zbY x) 0 32) (i*8) 8) (j*1) 1);intro i hi j hj;rw [e0,zhg hi (by decide) hj];exact⟨_,rfl⟩
 ·show ∀ j,j<6->zrM .u8 (zY (zY (zbY x) 32 6) (j*1) 1);intro j hj;rw [e1];have h:=zhg (m:=1) (n:=6) (f:=x.mem) (i:=0) (j:=j) (by decide) (by decide) hj;have h2:zY (seg (1*6) fun i=>u8 (x.mem i)) (0*6) 6=seg (1*6) fun i=>u8 (x.mem i):=by
   unfold zY;rw [UU,Uo,JJ (by rw [zw];decide)]
  rw [h2] at h;rw [h];exact⟨_,rfl⟩
theorem zfp {n:Nat} {f g:Nat->UInt8}:seg n (fun i=>u8 (f i))=seg n (fun i=>u8 (g i))↔∀ i,i<n->f i=g i:=by
 constructor
 ·intro h i hi;have h1:=zbo (n:=n) (fun i=>u8 (f i)) hi;rw [h,zbo (n:=n) (fun i=>u8 (g i)) hi] at h1;have h2:=Uh h1;unfold u8 at h2;injection h2 with _ h3;exact (jh.1 h3).symm
 ·intro h;unfold seg;exact Kn fun i hi=>by rw [h i (Uq.1 hi)]
theorem zlR {x y:ExD}:zbY x=zbY y↔zgv x y=true:=by
 unfold zgv;rw [bAT,Qm,Qm];have hl:(seg 32 fun i=>u8 (x.regs i)).length=(seg 32 fun i=>u8 (y.regs i)).length:=by rw [zw,zw]
 constructor
 ·intro h;unfold zbY at h;obtain⟨h1,h2⟩:=List.append_inj h hl;exact⟨fun i hi=>Uu (zfp.1 h1 i (Uq.1 hi)),fun i hi=>Uu (zfp.1 h2 i (Uq.1 hi))⟩
 ·rintro⟨h1,h2⟩;unfold zbY;rw [zfp.2 fun i hi=>dT (h1 i (Uq.2 hi)),zfp.2 fun i hi=>dT (h2 i (Uq.2 hi))]
theorem zp2 (u v:Operand) (x y:ExD) (w:Wd):(do eqGuard .eql 53 u v (.agg (zbY x).toArray) (.agg (zbY y).toArray);binOp .eql 53 (.agg (zbY x).toArray) (.agg (zbY y).toArray)).run PG w = .ok (.bool (zgv x y)) w:=by
 obtain⟨G,h1,h2⟩:=zr3;have:=ziu h1 9996 rfl (by kernel_rfl) (zcS x) (zcS y) (h2 x) (h2 y) u v w;rw [this,zcW zlR,Ki]
theorem zoo {X:Wd} {b:Nat} {x:ExD} {q:OA} {c:Nat} (fx:ExH X b x q c):zx X ⟨b,0+295,none⟩ (zbY x):=by
 have h:=zK (n:=295) (m:=38) (za fx);have e:((exC x q c).toArray.toList.drop 295).take 38=zbY x:=by
  show ((exC x q c).drop 295).take 38=_;have e2:exC x q c=(.slice q x.ev.length c::(zj x.po++(zj x.rf++(zj x.co++(zj x.dt++(zj x.ct++zj x.rm))))))++zbY x:=by
   unfold exC zbY;simp only [KS,Qo]
  have e3:(Value.slice q x.ev.length c::(zj x.po++(zj x.rf++(zj x.co++(zj x.dt++(zj x.ct++zj x.rm)))))).length=295:=by simp only [Qv,lap,zk]
  rw [e2,<- e3,Un,JJ (by rw [zcS];decide)]
 rw [e] at h;exact h
def zb3 (x y:ExD):Bool:=qM x.po y.po&&(qM x.rf y.rf&&(qM x.co y.co&&(qM x.dt y.dt&&(qM x.ct y.ct&&(qM x.rm y.rm&&zgv x y)))))
def jV (x y:ExD):Bool:=decide (x.ev.length=y.ev.length)&&((List.range x.ev.length).all (fun i=>decide (evA x i=evA y i))&&zb3 x y)
theorem jW (a:RelD):qM a a=true:=zhl.1 rfl
theorem zmq (x:ExD):jV x x=true:=by
 unfold jV zb3;rw [jW,jW,jW,jW,jW,jW,zlR.1 rfl];simp
theorem znP {n i:Nat} {f:Nat->Bool} (hi:i<n) (h:f i=false):(List.range n).all f=false:=by
 rw [KQ];exact⟨i,Uq.2 hi,by rw [h];decide⟩
theorem zmz {n:Nat} {f:Nat->Bool} (h:∀ i,i<n->f i=true):(List.range n).all f=true:=by
 rw [Qm];exact fun i hi=>h i (Uq.1 hi)
theorem zkA {k:Nat} {f:Nat->Bool} (h:∀ i,i<k->f i=true) (hk:f k=true):∀ i,i<k+1->f i=true:=fun i hi=>by
 by_cases e:i=k
 ·rw [e];exact hk
 ·exact h i (by omega)
section
variable {w:Wd} {c d:Nat} {x y:ExD} {q r:OA}
theorem ziL (hx0:SlR evE w q x.ev) (hy0:SlR evE w r y.ev) (hl:x.ev.length<4611686018427387904):CB 13 #[.agg (exC x q c).toArray,.agg (exC y r d).toArray] w (.bool (jV x y)):=by
 refine qX 78 [.agg (exC x q c).toArray,.agg (exC y r d).toArray] (.c .p (.c .p (.c .p .p))) Tryz.func13 ?_;obtain⟨L,hL⟩:=nm (w.heap.size);refine⟨Unit,fun _=>⟨[(2,At0 L),(3,At0 (L+1))],[]⟩,fun _ X=>ExH X L x q c/\ExH X (L+1) y r d/\Bw w X,?_,?_⟩
 ·have s1:=wz w (.cells (exC x q c).toArray 55);have h2:=zz (w.alloc (.cells (exC x q c).toArray 55)) (.cells (exC y r d).toArray 55);rw [s1] at h2;have b1:Bw w (w.alloc (.cells (exC x q c).toArray 55)):=zba w _;exact⟨(),⟨.cons (by rw [hL];rfl) (.cons (by rw [hL,<- s1];rfl) .nil),rfl⟩,by rw [hL];exact qG _ (zz w _),by rw [hL];exact h2,b1.alloc b1.size _⟩
 rintro _ X ⟨fX,fY,hbX⟩;refine⟨Unit,fun _=>⟨[(2,At0 L),(3,At0 (L+1))],[]⟩,fun _ Z=>x.ev.length=y.ev.length/\ExH Z L x q c/\ExH Z (L+1) y r d/\Bw w Z,?_,?_⟩
 ·refine⟨_,jJ (za fX),_,jJ (za fY),biE (fun h1=>?_) fun h1=>?_⟩
  ·have h1:=zpA h1;exact⟨rb (by unfold jV;rw [Uj (fun e=>(dF h1) (by rw [e])),Ul]),hbX⟩
  ·have h1:=zju h1;exact⟨(),(cvE rfl rfl),UB (dT h1),fX,fY,hbX⟩
 clear fX fY hbX;rintro _ X ⟨hlen,fX,fY,hbX⟩;have hs:jV x y=((List.range x.ev.length).all (fun i=>decide (evA x i=evA y i))&&zb3 x y):=by unfold jV;rw [Uu hlen];rfl
 rw [hs];refine⟨Unit,fun _=>⟨[(2,At0 L),(3,At0 (L+1))],[]⟩,fun _ Z=>(List.range x.ev.length).all (fun i=>decide (evA x i=evA y i))=true/\ExH Z L x q c/\ExH Z (L+1) y r d/\Bw w Z,?_,?_⟩
 ·refine⟨_,jJ (za fX),Nat,fun i=>⟨[(2,At0 L),(3,At0 (L+1)),(15,i64 x.ev.length),(16,i64 (i:Nat))],[]⟩,fun i Z=>i<=x.ev.length/\(∀ j,j<i->decide (evA x j=evA y j)=true)/\ExH Z L x q c/\ExH Z (L+1) y r d/\Bw w Z,fun i=>x.ev.length-i,0,(cvE rfl rfl),⟨Gb _,fun j hj=>by omega,fX,fY,hbX⟩,?_⟩;clear fX fY hbX;rintro i X ⟨hi,hall,fX,fY,hbX⟩;dsimp only;refine biE (fun hc=>?_) fun hc=>?_
  ·have hc:(i:Int)<(x.ev.length:Int):=dT hc;have hin:i<x.ev.length:=by omega
   obtain⟨bx,ox,hqx,hbx,hatx⟩:=zcr hx0 (by omega);obtain⟨by_,oy,hqy,hby,haty⟩:=zcr hy0 (by omega);subst hqx hqy;have hx:bx<w.heap.size/\∀ i,i<x.ev.length->zx w ⟨bx,ox+i*7,none⟩ (evE.enc (evA x i)):=⟨hbx,hatx⟩;have hy:by_<w.heap.size/\∀ i,i<y.ev.length->zx w ⟨by_,oy+i*7,none⟩ (evE.enc (evA y i)):=⟨hby,haty⟩;have dX:Bw X X.drew:=(Gd _ _).drew;refine DrawE.ord [] [0,1,2,3,4,5,6,7,8,9,10] (by kernel_rfl) ?_;replace fX:=zb dX fX;replace fY:=zb dX fY;replace hbX:=zst hbX dX;refine⟨_,jJ (za fX),i,rfl,by omega,?_⟩;refine⟨_,rfl,zm hbX (hx.2 i (by omega)),nL hx.1 hbX.size,_,jJ (za fY),i,rfl,by omega,?_⟩;refine⟨_,rfl,zm hbX (hy.2 i (by omega)),nL hy.1 hbX.size,_,fun w=>znZ _ _ _ _ w,biE (fun h1=>?_) fun h1=>?_⟩
   ·have h1:=zpA h1;exact⟨rb (by rw [znP hin h1];rfl),hbX⟩
   ·have h1:=zju h1;exact nxI (by omega) ⟨i+1,(cvE rfl rfl),⟨hin,zkA hall h1,fX,fY,hbX⟩,zdc (by omega)⟩
  ·have hc:¬ (i:Int)<(x.ev.length:Int):=dF hc;exact⟨(),(cvE rfl rfl),zmz fun j hj=>hall j (by omega),fX,fY,hbX⟩
 clear fX fY hbX;rintro _ X ⟨hev,fX,fY,hbX⟩;rw [hev,UA];unfold zb3;refine⟨_,zk _,zr7 fX,hlt fX,_,zk _,zr7 fY,hlt fY,_,fun w=>zbh _ _ _ _ w,biE (fun h1=>?_) fun h1=>?_⟩
 ·refine⟨_,zk _,zr6 fX,hlt fX,_,zk _,zr6 fY,hlt fY,_,fun w=>zbh _ _ _ _ w,biE (fun h2=>?_) fun h2=>?_⟩
  ·refine⟨_,zk _,zkB fX,hlt fX,_,zk _,zkB fY,hlt fY,_,fun w=>zbh _ _ _ _ w,biE (fun h3=>?_) fun h3=>?_⟩
   ·refine⟨_,zk _,zr8 fX,hlt fX,_,zk _,zr8 fY,hlt fY,_,fun w=>zbh _ _ _ _ w,biE (fun h4=>?_) fun h4=>?_⟩
    ·refine⟨_,zk _,zr9 fX,hlt fX,_,zk _,zr9 fY,hlt fY,_,fun w=>zbh _ _ _ _ w,biE (fun h5=>?_) fun h5=>?_⟩
     ·refine⟨_,zk _,zr5 fX,hlt fX,_,zk _,zr5 fY,hlt fY,_,fun w=>zbh _ _ _ _ w,biE (fun h6=>?_) fun h6=>?_⟩
      ·exact⟨_,zcS _,zoo fX,hlt fX,_,zcS _,zoo fY,hlt fY,_,fun w=>zp2 _ _ x y w,rb (by simp [h1,h2,h3,h4,h5,h6]),hbX⟩
      ·exact⟨rb (by simp [h1,h2,h3,h4,h5,h6]),hbX⟩
     ·exact brF ⟨rb (by simp [h1,h2,h3,h4,h5]),hbX⟩
    ·exact brF (brF ⟨rb (by simp [h1,h2,h3,h4]),hbX⟩)
   ·exact brF (brF (brF ⟨rb (by simp [h1,h2,h3]),hbX⟩))
  ·exact brF (brF (brF (brF ⟨rb (by simp [h1,h2]),hbX⟩)))
 ·exact brF (brF (brF (brF (brF ⟨rb (by simp [h1]),hbX⟩))))
end
theorem zaK {x y:UInt8}:decide (((x.toNat:Nat):Int)=((y.toNat:Nat):Int))=decide (x=y):=QI.2 jh
theorem zpB {x y:UInt8}:decide (((x.toNat:Nat):Int)<((y.toNat:Nat):Int))=decide (x.toNat<y.toNat):=QI.2 Int.ofNat_lt
theorem zqy (a b:UInt8):IntKind.u8.wrap ((a.toNat:Int)+(b.toNat:Int))=((a+b).toNat:Int):=by
 rw [UInt8.toNat_add];unfold IntKind.wrap;simp only [IntKind.bits,IntKind.signed,Ul,Kw,Gm];omega
theorem zrV (a b:UInt8):IntKind.u8.wrap ((a.toNat:Int)-(b.toNat:Int))=((a-b).toNat:Int):=by
 rw [UInt8.toNat_sub];have:=a.toNat_lt;have:=b.toNat_lt;unfold IntKind.wrap;simp only [IntKind.bits,IntKind.signed,Ul,Kw,Gm];omega
theorem zrU (a b:UInt8):IntKind.u8.wrap ((BitVec.ofInt IntKind.u8.bits (a.toNat:Int) ^^^ BitVec.ofInt IntKind.u8.bits (b.toNat:Int)).toNat:Int)=((a ^^^ b).toNat:Int):=by
 have e:∀ x:UInt8,(BitVec.ofInt IntKind.u8.bits (x.toNat:Int)).toNat=x.toNat:=fun x=>by
  have:=x.toNat_lt;rw [Kv];simp only [IntKind.bits];omega
 rw [BitVec.toNat_xor,e,e,<- UInt8.toNat_xor];have:=(a ^^^ b).toNat_lt;unfold IntKind.wrap;simp only [IntKind.bits,IntKind.signed,Ul,Kw,Gm];omega
structure RunS (R:RunD):Prop where
 d:∀ i,R.deps i<2^32
 c:R.ctl<2^32
 s:∀ i,R.data i<2^32/\R.ctrl i<2^32/\R.att i<2^32
theorem zjq {a b:Nat} (ha:a<2^32) (hb:b<2^32):a|||b<2^32:=Qb ha hb
theorem zlA {n:Nat} (h:n<32):2^n<2^32:=Kh (by decide) h
theorem zey {f:Nat->Nat} {b:Nat} (h:∀ i,f i<b) {k v:Nat} (hv:v<b):∀ i,upd f k v i<b:=fun i=>by
 by_cases e:i=k
 ·rw [e,zE];exact hv
 ·rw [zV _ _ e];exact h i
theorem RunS.val {R:RunD} (h:RunS R) (r:Bool) (n:UInt8):(qz r n R).2<2^32:=by
 unfold qz
 split
 ·exact h.d _
 ·exact (by decide:0<2^32)
theorem RunS.emit {R:RunD} (h:RunS R) {k a v m:UInt8} {d:Nat} (hd:d<2^32):RunS (zaM R k a v m d) :=
 ⟨h.d,h.c,fun i=>⟨zey (fun i=>(h.s i).1) hd i,zey (fun i=>(h.s i).2.1) h.c i,(h.s i).2.2⟩⟩
theorem RunS.set {R:RunD} (h:RunS R) {d v:UInt8} {s:Nat} (hs:s<2^32):RunS (zh1 R d v s):=⟨zey h.d hs,h.c,h.s⟩
theorem RunS.exch {R:RunD} (h:RunS R) (hm:R.many<32) {x:InsD} {o v:UInt8} {d:Nat} (hd:d<2^32):RunS (zcD R x o v d):=by
 have h2:=(h.emit (k:=1) (a:=x.loc) (v:=o) (m:=3) (d:=0) (by decide)).emit (k:=2) (a:=x.loc) (v:=v) (m:=3) hd;exact RunS.set (R:={ zaM (zaM R 1 x.loc o 3 0) 2 x.loc v 3 d with att:=upd (zaM (zaM R 1 x.loc o 3 0) 2 x.loc v 3 d).att (R.many+1) (2^R.many) })
  ⟨h2.d,h2.c,fun i=>⟨(h2.s i).1,(h2.s i).2.1,zey (fun i=>(h2.s i).2.2) (zlA hm) i⟩⟩ (zlA hm)
section
variable {R:RunD} {b:Nat} {w:Wd} {x:InsD} {v:UInt8}
theorem zkS {o v:UInt8} {d:Nat} (f:jq w b R) (hm:R.many<23) (hd:x.dst.toNat<8):Calls PG 136 #[AtR b,zca x,u8 o,u8 v,s32 d] w fun e w' =>
  e = .returned (i64 (R.many+1:Nat))/\jq w' b (zcD R x o v d)/\w.grownBy w' (some b):=by
 refine zI 39 [AtR b,zca x,u8 o,u8 v,s32 d] Tryz.func136 ?_;have f0:=zz w (.cells (zH.enc x).toArray 41);have hb:Bw w (w.alloc (.cells (zH.enc x).toArray 41)):=zba w _;have fr:=zb hb f;have hne:w.heap.size≠b:=fun e=>by have:=hlt f;omega
 refine⟨_,zc (za f0) (i:=2) rfl,?_⟩;refine cmo (zeQ (k:=1) (l:=x.loc) (v:=o) (m:=3) (d:=0) fr (by omega)) ?_;rintro e Y ⟨rfl,fY,gY,sY⟩;have f0Y:=(gY.block w.heap.size (hlt f0) (by simpa using hne)).trans f0;refine⟨_,zc (za f0Y) (i:=2) rfl,?_⟩;refine cmo (zeQ (k:=2) (l:=x.loc) (v:=v) (m:=3) (d:=d) fY (by show R.many+1<24;omega)) ?_;rintro e Z ⟨rfl,fZ,gZ,sZ⟩;have f0Z:=(gZ.block w.heap.size (hlt f0Y) (by simpa using hne)).trans f0Y;have gd:∀ Z:Wd,Z.grownBy Z.drew (some b):=fun Z=>⟨rfl,rfl,rfl,UY _,fun _ _ _=>rfl⟩;refine DrawE.ord [7] [0,1,2,3,4,5,6,7] (by kernel_rfl) ?_;refine⟨by omega,_,zfn (e:=R.many) (by omega),?_⟩;refine⟨R.many+1,rfl,by omega,?_⟩;refine zi zkK (hdr fZ) (o:=0+235+(R.many+1)*1) (v:=s32 (2^R.many)) rfl rfl (by rw [jt];omega) rfl fun V fV gV sV=>?_;rw [UT,UZ,zi8 _ (by omega)] at fV;have f0V:=(gV.block w.heap.size (hlt f0Z) (by simpa using hne)).trans (hdr f0Z);refine DrawE.ord [6] [0,1,2,3,4,5,6] (by kernel_rfl) ?_;refine⟨_,zc (za (hdr f0V)) (i:=1) rfl,?_⟩;refine⟨by omega,_,zfn (e:=R.many) (by omega),?_⟩;refine cmo (zln (d:=x.dst) (v:=o) (s:=2^R.many) (hdr fV) hd) ?_;rintro e U ⟨rfl,fU,gU,sU⟩;exact⟨rfl,fU,zd (zf hb) (zd gY (zd gZ (zd (gd Z) (zd gV (zd (gd V) gU)))))⟩
theorem zmr (f:jq w b R) (hm:R.many<23) (hd:x.dst.toNat<8) (ha:x.ar=true->x.an.toNat<8):Calls PG 96 #[AtR b,zca x,u8 v] w fun e w' =>
  e = .returned (.tuple #[])/\jq w' b (znw R x v)/\w.grownBy w' (some b):=by
 refine zI 21 [AtR b,zca x,u8 v] Tryz.func96 ?_;have f0:=zz w (.cells (zH.enc x).toArray 41);have hb:Bw w (w.alloc (.cells (zH.enc x).toArray 41)):=zba w _;have fr:=zb hb f;refine⟨[.bool x.ar,u8 x.an],rfl,qu (o:=3) (n:=2) f0,hlt f0,?_⟩;refine cmo (zbc fr ha) ?_;rintro e Y ⟨rfl,hbY⟩;have f0Y:=zb hbY f0;have fY:=zb hbY fr;refine⟨zH.enc x,rfl,za f0Y,hlt f0Y,?_⟩;refine cmo (zkS (x:=x) (o:=v) (v:=(qz x.ar x.an R).1) (d:=(qz x.ar x.an R).2) fY hm hd) ?_;rintro e Z ⟨rfl,fZ,gZ⟩;exact⟨rfl,fZ,zd (zf hb) (zd (zf hbY) gZ)⟩
theorem zkq (f:jq w b R) (hs:RunS R) (hm:R.many<23) (hd:x.dst.toNat<8) (ha:x.ar=true->x.an.toNat<8):Calls PG 97 #[AtR b,zca x,u8 v] w fun e w' =>
  e = .returned (.tuple #[])/\jq w' b (zeO R x v)/\w.grownBy w' (some b):=by
 refine zI 40 [AtR b,zca x,u8 v] Tryz.func97 ?_;have f0:=zz w (.cells (zH.enc x).toArray 41);have hb:Bw w (w.alloc (.cells (zH.enc x).toArray 41)):=zba w _;have fr:=zb hb f;refine⟨[.bool x.ar,u8 x.an],rfl,qu (o:=3) (n:=2) f0,hlt f0,?_⟩;refine cmo (zbc fr ha) ?_;rintro e Y ⟨rfl,hbY⟩;have f0Y:=zb hbY f0;have fY:=zb hbY fr;refine⟨zH.enc x,rfl,za f0Y,hlt f0Y,?_⟩;refine⟨_,zqy _ _,?_⟩;refine cmo (zkS (x:=x) (o:=v) (v:=v+(qz x.ar x.an R).1) (d:=(qz x.ar x.an R).2) fY hm hd) ?_;rintro e Z ⟨rfl,fZ,gZ⟩;obtain⟨S,hS⟩:=nm (zcD R x v (v+(qz x.ar x.an R).1) (qz x.ar x.an R).2);have sS:RunS S:=by rw [hS];exact hs.exch (by omega) (hs.val _ _)
 rw [<- hS] at fZ;have gd:∀ Z:Wd,Z.grownBy Z.drew (some b):=fun Z=>⟨rfl,rfl,rfl,UY _,fun _ _ _=>rfl⟩;refine DrawE.ord [16] [0,1,2,3,4,5,6,7,8,9,10,11,12,13,14,15,16] (by kernel_rfl) ?_;refine⟨R.many+1,rfl,by omega,?_⟩;refine⟨_,by rw [UZ,UF];exact zc (za (hdr fZ)) (zi9 S (i:=R.many+1) (by omega)),?_⟩;refine⟨R.many+1,rfl,by omega,?_⟩;refine⟨_,by rw [UZ,UF];exact zc (za (hdr fZ)) (zh4 S (i:=R.many+1) (by omega)),?_⟩;refine⟨_,zex (sS.s _).1 (sS.s _).2.2,?_⟩;refine⟨R.many+1,rfl,by omega,?_⟩;refine zi zkK (hdr fZ) (o:=0+187+(R.many+1)*1) (v:=s32 (S.data (R.many+1)|||S.att (R.many+1))) rfl rfl (by rw [jt];omega) rfl fun V fV gV sV=>?_;rw [UT,UZ,zdT _ (by omega)] at fV;refine⟨rfl,?_,zd (zf hb) (zd (zf hbY) (zd gZ (zd (gd Z) gV)))⟩;rw [hS] at fV;exact fV
theorem zmu (f:jq w b R) (hs:RunS R) (hd:x.dst.toNat<8) (ha:x.ar=true->x.an.toNat<8) (hc:x.br=true->x.bn.toNat<8):Calls PG 95 #[AtR b,zca x,u8 v] w fun e w' =>
  e = .returned (.tuple #[])/\jq w' b (zn2 R x)/\w.grownBy w' (some b):=by
 refine qX 47 [AtR b,zca x,u8 v] (.s .p (.s .p (.s .p (.c .p .p)))) Tryz.func95 ?_;have f0:=zz w (.cells (zH.enc x).toArray 41);have hb:Bw w (w.alloc (.cells (zH.enc x).toArray 41)):=zba w _;have fr:=zb hb f;refine⟨[.bool x.ar,u8 x.an],rfl,qu (o:=3) (n:=2) f0,hlt f0,?_⟩;refine cmo (zbc fr ha) ?_;rintro e Y ⟨rfl,hbY⟩;have f0Y:=zb hbY f0;have fY:=zb hbY fr;refine⟨[.bool x.br,u8 x.bn],rfl,qu (o:=5) (n:=2) f0Y,hlt f0Y,?_⟩;refine cmo (zbc fY hc) ?_;rintro e Z ⟨rfl,hbZ⟩;have f0Z:=zb hbZ f0Y;have fZ:=zb hbZ fY;obtain⟨A,hA⟩:=nm (qz x.ar x.an R);obtain⟨C,hC⟩:=nm (qz x.br x.bn R);rw [<- hA,<- hC];refine⟨Unit,fun _=>⟨[(0,AtR b),(4,At0 w.heap.size),(6,u8 (zhO x.fn A.1 C.1)),(7,s32 A.2),(9,s32 C.2)],[]⟩,fun _ X=>X=Z,?_,?_⟩
 ·refine⟨_,zc (za f0Z) (i:=7) rfl,?_⟩;refine biE (fun h=>?_) fun h=>?_
  ·have h:x.fn=1:=dT ((zaK (x:=x.fn) (y:=1)).symm.trans h);refine⟨_,zqy _ _,?_⟩;exact⟨(),⟨.cons rfl (.cons rfl (.cons (by unfold zhO;rw [Gr h];rfl) (.cons rfl (.cons rfl .nil)))),rfl⟩,rfl⟩
  ·have h:¬ x.fn=1:=dF ((zaK (x:=x.fn) (y:=1)).symm.trans h);refine biE (fun k=>?_) fun k=>?_
   ·have k:x.fn=2:=dT ((zaK (x:=x.fn) (y:=2)).symm.trans k);refine⟨_,zrV _ _,?_⟩;exact⟨(),⟨.cons rfl (.cons rfl (.cons (by unfold zhO;rw [Gq h,Gr k];rfl) (.cons rfl (.cons rfl .nil)))),rfl⟩,rfl⟩
   ·have k:¬ x.fn=2:=dF ((zaK (x:=x.fn) (y:=2)).symm.trans k);refine⟨_,zrU _ _,?_⟩;exact⟨(),⟨.cons rfl (.cons rfl (.cons (by unfold zhO;rw [Gq h,Gq k];rfl) (.cons rfl (.cons rfl .nil)))),rfl⟩,rfl⟩
 rintro _ _ rfl;refine⟨_,zc (za f0Z) (i:=1) rfl,?_⟩;refine⟨_,zex (by rw [hA];exact hs.val _ _) (by rw [hC];exact hs.val _ _),?_⟩;refine cmo (zln (d:=x.dst) (v:=zhO x.fn A.1 C.1) (s:=A.2|||C.2) fZ hd) ?_;rintro e U ⟨rfl,fU,gU,sU⟩;refine⟨rfl,?_,zd (zf hb) (zd (zf hbY) (zd (zf hbZ) gU))⟩;rw [hA,hC] at fU;exact fU
theorem znF (f:jq w b R) (hs:RunS R) (hm:R.many<23) (hd:x.dst.toNat<8) (ha:x.ar=true->x.an.toNat<8) (hc:x.br=true->x.bn.toNat<8):Calls PG 98 #[AtR b,zca x,u8 v] w fun e w' =>
  e = .returned (.tuple #[])/\jq w' b (zdo R x v)/\w.grownBy w' (some b):=by
 refine zI 65 [AtR b,zca x,u8 v] Tryz.func98 ?_;have f0:=zz w (.cells (zH.enc x).toArray 41);have hb:Bw w (w.alloc (.cells (zH.enc x).toArray 41)):=zba w _;have fr:=zb hb f;refine⟨[.bool x.ar,u8 x.an],rfl,qu (o:=3) (n:=2) f0,hlt f0,?_⟩;refine cmo (zbc fr ha) ?_;rintro e Y ⟨rfl,hbY⟩;have f0Y:=zb hbY f0;have fY:=zb hbY fr;refine⟨[.bool x.br,u8 x.bn],rfl,qu (o:=5) (n:=2) f0Y,hlt f0Y,?_⟩;refine cmo (zbc fY hc) ?_;rintro e Z ⟨rfl,hbZ⟩;have f0Z:=zb hbZ f0Y;have fZ:=zb hbZ fY;have gd:∀ Z:Wd,Z.grownBy Z.drew (some b):=fun Z=>⟨rfl,rfl,rfl,UY _,fun _ _ _=>rfl⟩;have gZ:w.grownBy Z (some b):=zd (zf hb) (zd (zf hbY) (zf hbZ));have hne:w.heap.size≠b:=fun e=>by have:=hlt f;omega
 obtain⟨A,hA⟩:=nm (qz x.ar x.an R);obtain⟨C,hC⟩:=nm (qz x.br x.bn R);have hA2:A.2<2^32:=by rw [hA];exact hs.val _ _
 have hC2:C.2<2^32:=by rw [hC];exact hs.val _ _
 rw [<- hA,<- hC];refine biE (fun h=>?_) fun h=>?_
 ·have h:¬ v=A.1:=fun e=>by rw [e] at h;have h:(!decide (((A.1.toNat:Nat):Int)=((A.1.toNat:Nat):Int)))=true:=h;simp at h
  refine⟨_,zc (za f0Z) (i:=2) rfl,?_⟩;refine cmo (zeQ (k:=1) (l:=x.loc) (v:=v) (m:=3) (d:=0) fZ (by omega)) ?_;rintro e U ⟨rfl,fU,gU,sU⟩;have f0U:=(gU.block w.heap.size (hlt f0Z) (by simpa using hne)).trans f0Z;refine DrawE.ord [6] [0,1,2,3,4,5,6] (by kernel_rfl) ?_;refine⟨_,zc (za (hdr f0U)) (i:=1) rfl,?_⟩;refine⟨by omega,_,zfn (e:=R.many) (by omega),?_⟩;refine cmo (zln (d:=x.dst) (v:=v) (s:=2^R.many) (hdr fU) hd) ?_;rintro e V ⟨rfl,fV,gV,sV⟩;refine⟨rfl,?_,zd gZ (zd gU (zd (gd U) gV))⟩;unfold zdo;rw [Gq (by rw [<- hA];exact h)];exact fV
 ·have h:v=A.1:=by
   have h:(!decide (((v.toNat:Nat):Int)=((A.1.toNat:Nat):Int)))=false:=h;rw [zaK,Bool.not_eq_false',dE] at h;exact h
  refine⟨zH.enc x,rfl,za f0Z,hlt f0Z,?_⟩;refine cmo (zkS (x:=x) (o:=v) (v:=C.1) (d:=C.2) fZ hm hd) ?_;rintro e U ⟨rfl,fU,gU⟩;obtain⟨S,hS⟩:=nm (zcD R x v C.1 C.2);have sS:RunS S:=by rw [hS];exact hs.exch (by omega) hC2
  rw [<- hS] at fU;refine DrawE.ord [18] [0,1,2,3,4,5,6,7,8,9,10,11,12,13,14,15,16,17,18] (by kernel_rfl) ?_;refine⟨R.many+1,rfl,by omega,?_⟩;refine⟨_,by rw [UZ,UF];exact zc (za (hdr fU)) (zja S (i:=R.many+1) (by omega)),?_⟩;refine⟨R.many+1,rfl,by omega,?_⟩;refine⟨_,by rw [UZ,UF];exact zc (za (hdr fU)) (zh4 S (i:=R.many+1) (by omega)),?_⟩;refine⟨_,zex (sS.s _).2.2 hA2,?_⟩;refine⟨_,zex (sS.s _).2.1 (zjq (sS.s _).2.2 hA2),?_⟩;refine⟨R.many+1,rfl,by omega,?_⟩;refine zi zkK (hdr fU) (o:=0+211+(R.many+1)*1) (v:=s32 (S.ctrl (R.many+1)|||(S.att (R.many+1)|||A.2))) rfl rfl (by rw [jt];omega) rfl fun V fV gV sV=>?_;rw [UT,UZ,zdU _ (by omega)] at fV;refine⟨rfl,?_,zd gZ (zd gU (zd (gd U) gV))⟩;unfold zdo;rw [Gr (by rw [<- hA];exact h),<- hA,<- hC,<- hS];exact fV
theorem zms (f:jq w b R) (hs:RunS R) (hp:R.pc<=1000) (ha:x.ar=true->x.an.toNat<8) (hc:x.br=true->x.bn.toNat<8):Calls PG 100 #[AtR b,zca x,u8 v] w fun e w' =>
  e = .returned (.tuple #[])/\jq w' b (zbE R x)/\w.grownBy w' (some b):=by
 refine qX 61 [AtR b,zca x,u8 v] (.s .p (.s .p (.c .p (.c .p (.s .p (.c .p .p)))))) Tryz.func100 ?_;have f0:=zz w (.cells (zH.enc x).toArray 41);have hb:Bw w (w.alloc (.cells (zH.enc x).toArray 41)):=zba w _;have fr:=zb hb f;have hne:w.heap.size≠b:=fun e=>by have:=hlt f;omega
 refine⟨[.bool x.ar,u8 x.an],rfl,qu (o:=3) (n:=2) f0,hlt f0,?_⟩;refine cmo (zbc fr ha) ?_;rintro e Y ⟨rfl,hbY⟩;have f0Y:=zb hbY f0;have fY:=zb hbY fr;have gd:∀ Z:Wd,Z.grownBy Z.drew (some b):=fun Z=>⟨rfl,rfl,rfl,UY _,fun _ _ _=>rfl⟩;obtain⟨A,hA⟩:=nm (qz x.ar x.an R);obtain⟨C,hC⟩:=nm (qz x.br x.bn R);have hA2:A.2<2^32:=by rw [hA];exact hs.val _ _
 have hC2:C.2<2^32:=by rw [hC];exact hs.val _ _
 refine⟨Unit,fun _=>⟨[(0,AtR b),(4,At0 w.heap.size),(6,u8 A.1),(7,s32 A.2),(8,u8 C.1),(9,s32 C.2)],[]⟩,fun _ X=>Bw Y X,?_,?_⟩
 ·refine⟨[.bool x.br,u8 x.bn],rfl,qu (o:=5) (n:=2) f0Y,hlt f0Y,?_⟩;refine cmo (zbc fY hc) ?_;rintro e Z ⟨rfl,hbZ⟩;rw [<- hA,<- hC];exact⟨(),(cvE rfl rfl),hbZ⟩
 rintro _ Z hbZ;have f0Z:=zb hbZ f0Y;have fZ:=zb hbZ fY;obtain⟨S,hS⟩:∃ S:RunD,S={ R with ctl:=R.ctl|||(A.2|||C.2) }:=⟨_,rfl⟩;have hpc:S.pc=R.pc:=by rw [hS]
 refine⟨Unit,fun _=>⟨[(0,AtR b),(4,At0 w.heap.size),(6,u8 A.1),(8,u8 C.1)],[]⟩,fun _ X=>jq X b S/\X.heap[w.heap.size]?=some (.cells (zH.enc x).toArray 41 (0,0))/\w.grownBy X (some b),?_,?_⟩
 ·refine⟨_,zc (za fZ) (i:=17) (zlq R),?_⟩;refine⟨_,zex hA2 hC2,?_⟩;refine⟨_,zex hs.c (zjq hA2 hC2),?_⟩;refine zi zkK fZ (o:=0+17) (v:=s32 (R.ctl|||(A.2|||C.2))) rfl rfl (by rw [jt];decide) rfl fun V fV gV sV=>?_;rw [UT,zi7] at fV;exact⟨(),(cvE rfl rfl),by rw [hS];exact fV,(gV.block w.heap.size (hlt f0Z) (by simpa using hne)).trans f0Z,zd (zf hb) (zd (zf hbY) (zd (zf hbZ) gV))⟩
 clear f0 fr f0Y fY f0Z fZ hb hbY hbZ;rintro _ V ⟨fV,f0V,gV'⟩;refine⟨Unit,fun _=>⟨[(0,AtR b),(4,At0 w.heap.size),(10,.bool (zi1 x.fn A.1 C.1))],[]⟩,fun _ X=>X=V,?_,?_⟩
 ·refine⟨_,zc (za f0V) (i:=7) rfl,?_⟩;refine biE (fun h=>?_) fun h=>?_
  ·have h:x.fn=4:=dT ((zaK (x:=x.fn) (y:=4)).symm.trans h);exact⟨(),⟨.cons rfl (.cons rfl (.cons (by unfold zi1;rw [Gr h,<- zaK];rfl) .nil)),rfl⟩,rfl⟩
  ·have h:¬ x.fn=4:=dF ((zaK (x:=x.fn) (y:=4)).symm.trans h);refine biE (fun k=>?_) fun k=>?_
   ·have k:x.fn=5:=dT ((zaK (x:=x.fn) (y:=5)).symm.trans k);exact⟨(),⟨.cons rfl (.cons rfl (.cons (by unfold zi1;rw [Gq h,Gr k,<- zaK];rfl) .nil)),rfl⟩,rfl⟩
   ·have k:¬ x.fn=5:=dF ((zaK (x:=x.fn) (y:=5)).symm.trans k);exact⟨(),⟨.cons rfl (.cons rfl (.cons (by unfold zi1;rw [Gq h,Gq k,<- zpB];rfl) .nil)),rfl⟩,rfl⟩
 rintro _ _ rfl;refine biE (fun h=>?_) fun h=>?_
 ·refine DrawE.ord [10] [0,1,2,3,4,5,6,7,8,9,10] (by kernel_rfl) ?_;refine⟨_,zc (za (hdr fV)) (i:=0) rfl,?_⟩;refine⟨_,zc (za (hdr f0V)) (i:=9) rfl,?_⟩;have hk:=x.skip.toNat_lt;refine⟨_,ze (by omega),?_⟩;refine⟨((S.pc+x.skip.toNat:Nat):Int),(ze (by omega)).trans rfl,?_⟩;refine zi k3 (hdr fV) (o:=0+0) (v:=i64 (S.pc+x.skip.toNat:Nat)) rfl rfl (by rw [jt];decide) rfl fun U fU gU sU=>?_;rw [UT,zfP] at fU;refine⟨rfl,?_,zd gV' (zd (gd _) gU)⟩;unfold zbE;rw [<- hA,<- hC,Gr h];rw [hS] at fU;exact fU
 ·refine⟨rfl,?_,gV'⟩;unfold zbE;rw [<- hA,<- hC,Gq (by rw [h];decide)];rw [hS] at fV;exact fV
end
def ExG (x:InsD):Prop :=
 (x.op=1/\x.dst.toNat<8)\/(x.op=2/\(x.ar=true->x.an.toNat<8))\/(x.op=3/\x.dst.toNat<8/\(x.ar=true->x.an.toNat<8)/\(x.br=true->x.bn.toNat<8))\/(x.op=4/\x.dst.toNat<8/\(x.ar=true->x.an.toNat<8))\/(x.op=5/\x.dst.toNat<8/\(x.ar=true->x.an.toNat<8))\/(x.op=6/\x.dst.toNat<8/\(x.ar=true->x.an.toNat<8)/\(x.br=true->x.bn.toNat<8))\/x.op=7\/(x.op=8/\(x.ar=true->x.an.toNat<8)/\(x.br=true->x.bn.toNat<8))
theorem qc {x:InsD} {R:RunD} {v:UInt8}:(x.op=1->zel R x v=zn8 R x v)/\(x.op=2->zel R x v=zkj R x)/\(x.op=3->zel R x v=zn2 R x)/\(x.op=4->zel R x v=znw R x v)/\(x.op=5->zel R x v=zeO R x v)/\(x.op=6->zel R x v=zdo R x v)/\(x.op=7->zel R x v=zkR R x)/\(x.op=8->zel R x v=zbE R x):=by
 unfold zel;refine⟨fun h=>?_,fun h=>?_,fun h=>?_,fun h=>?_,fun h=>?_,fun h=>?_,fun h=>?_,fun h=>?_⟩ <;> rw [h] <;> rfl
theorem zll {R:RunD} {x:InsD}:(zbE R x).pc<=R.pc+255/\(zbE R x).many=R.many/\(zbE R x).pc<=R.pc+x.skip.toNat:=by
 have:=x.skip.toNat_lt;unfold zbE;dsimp only
 split
 ·exact⟨by dsimp only;omega,rfl,UY _⟩
 ·exact⟨by dsimp only;omega,rfl,by dsimp only;omega⟩
theorem zoM {R:RunD} {x:InsD} {v:UInt8}:(zdo R x v).pc=R.pc/\R.many+1<=(zdo R x v).many/\(zdo R x v).many<=R.many+2:=by
 unfold zdo
 split
 ·exact⟨rfl,Nat.le_succ _,UY _⟩
 ·exact⟨rfl,UY _,Nat.le_succ _⟩
section
variable {R:RunD} {b:Nat} {w:Wd}
theorem zgw {x:InsD} {v:UInt8} (f:jq w b R) (hs:RunS R) (hm:R.many<23) (hp:R.pc<=1000) (hx:ExG x):Calls PG 39 #[AtR b,zca x,u8 v] w fun e w' =>
  e = .returned (.tuple #[])/\jq w' b (qi R x v)/\w.grownBy w' (some b):=by
 refine zI 21 [AtR b,zca x,u8 v] Tryz.func39 ?_;have f0:=zz w (.cells (zH.enc x).toArray 41);obtain⟨W1,hW1⟩:=nm ((w.alloc (.cells (zH.enc x).toArray 41)).drew);have hb:Bw w W1:=by rw [hW1];exact ((zba w _)).drew
 have fr:jq W1 b R:=zb hb f;have f0:W1.heap[w.heap.size]?=some (.cells (zH.enc x).toArray 41 (0,0)):=by rw [hW1];exact f0
 have hW1':(w.alloc (.cells (Value.agg (zH.enc x).toArray).cells 41)).drew=W1:=hW1.symm;refine DrawE.ord [7] [1,2,4,5,6,0,3,7] (by kernel_rfl) ?_;rw [hW1'];refine⟨_,zc (za f0) (i:=0) rfl,zH.enc x,rfl,za f0,hlt f0,cmo zmR ?_⟩;rintro e Y ⟨rfl,hbY⟩;refine⟨hbY,?_⟩;have fY:=zb hbY fr;have gY:w.grownBy Y (some b):=zd (zf hb) (zf hbY);have fin:∀ {S:RunD} {Z:Wd},jq Z b S->Y.grownBy Z (some b)->S.pc<=2000->zel R x v=S->∃ u,Z.cell? ⟨b,0+0,none⟩=some u/\zqp PG .add 3 (.tmp 17) (.const (i64 1)) u (i64 1) (fun v18=>SatR ((storeVar 3 ⟨b,0+0,none⟩ v18).run PG Z) fun _ w'=>(Ending.returned (.tuple #[])=Ending.returned (.tuple #[]))/\jq w' b (qi R x v)/\w.grownBy w' (some b)):=by
  intro S Z fZ gZ hpc he;have he:qi R x v={ S with pc:=S.pc+1 }:=by unfold qi;rw [he]
  refine⟨_,zc (za fZ) (i:=0) rfl,((S.pc+1:Nat):Int),(ze (by show _<=((S.pc:Nat):Int)+1/\((S.pc:Nat):Int)+1<=_;omega)).trans rfl,zi k3 fZ (o:=0+0) (v:=i64 (S.pc+1:Nat)) rfl rfl (by rw [jt];decide) rfl fun V fV gV sV=>?_⟩;rw [UT,zfP] at fV;rw [he];exact⟨rfl,fV,zd gY (zd gZ gV)⟩
 rcases hx with ⟨h1,h2⟩ | ⟨h1,h2⟩ | ⟨h1,h2,h3,h4⟩ | ⟨h1,h2,h3⟩ | ⟨h1,h2,h3⟩ | ⟨h1,h2,h3,h4⟩ | h1 | ⟨h1,h2,h3⟩
 ·refine⟨1,by rw [h1];rfl,by decide,?_⟩;refine zae (v:=fnV 93) rfl (cmo (zmv fY (by omega) h2) ?_);rintro e Z ⟨rfl,fZ,gZ⟩;exact fin fZ gZ (show R.pc<=2000 by omega) (qc.1 h1)
 ·refine⟨2,by rw [h1];rfl,by decide,?_⟩;refine zae (v:=fnV 94) rfl (cmo (zkp fY (by omega) h2) ?_);rintro e Z ⟨rfl,fZ,gZ⟩;exact fin fZ gZ (show R.pc<=2000 by omega) (qc.2.1 h1)
 ·refine⟨3,by rw [h1];rfl,by decide,?_⟩;refine zae (v:=fnV 95) rfl (cmo (zmu fY hs h2 h3 h4) ?_);rintro e Z ⟨rfl,fZ,gZ⟩;exact fin fZ gZ (show R.pc<=2000 by omega) (qc.2.2.1 h1)
 ·refine⟨4,by rw [h1];rfl,by decide,?_⟩;refine zae (v:=fnV 96) rfl (cmo (zmr fY hm h2 h3) ?_);rintro e Z ⟨rfl,fZ,gZ⟩;exact fin fZ gZ (show R.pc<=2000 by omega) (qc.2.2.2.1 h1)
 ·refine⟨5,by rw [h1];rfl,by decide,?_⟩;refine zae (v:=fnV 97) rfl (cmo (zkq fY hs hm h2 h3) ?_);rintro e Z ⟨rfl,fZ,gZ⟩;exact fin fZ gZ (show R.pc<=2000 by omega) (qc.2.2.2.2.1 h1)
 ·refine⟨6,by rw [h1];rfl,by decide,?_⟩;refine zae (v:=fnV 98) rfl (cmo (znF fY hs hm h2 h3 h4) ?_);rintro e Z ⟨rfl,fZ,gZ⟩;exact fin fZ gZ (by rw [zoM.1];omega) (qc.2.2.2.2.2.1 h1)
 ·refine⟨7,by rw [h1];rfl,by decide,?_⟩;refine zae (v:=fnV 99) rfl (cmo (zkr fY (by omega)) ?_);rintro e Z ⟨rfl,fZ,gZ⟩;exact fin fZ gZ (show R.pc<=2000 by omega) (qc.2.2.2.2.2.2.1 h1)
 ·refine⟨8,by rw [h1];rfl,by decide,?_⟩;refine zae (v:=fnV 100) rfl (cmo (zms fY hs hp h2 h3) ?_);rintro e Z ⟨rfl,fZ,gZ⟩;exact fin fZ gZ (by have:=(zll (R:=R) (x:=x)).1;omega) (qc.2.2.2.2.2.2.2 h1)
end
theorem zmt {R:RunD} {x:InsD} {v:UInt8} (hs:RunS R) (hm:R.many<31) (hx:ExG x):RunS (qi R x v):=by
 have fin:∀ S:RunD,RunS S->zel R x v=S->RunS (qi R x v):=fun S h e=>by
  unfold qi;rw [e];exact⟨h.d,h.c,h.s⟩
 have ex:∀ {o a:UInt8} {d:Nat},d<2^32->RunS (zcD R x o a d):=fun hd=>hs.exch (by omega) hd;rcases hx with ⟨h1,-⟩ | ⟨h1,-⟩ | ⟨h1,-⟩ | ⟨h1,-⟩ | ⟨h1,-⟩ | ⟨h1,-⟩ | h1 | ⟨h1,-⟩
 ·exact fin _ ((hs.emit (by decide)).set (zlA (by omega))) (qc.1 h1)
 ·exact fin _ (hs.emit (hs.val _ _)) (qc.2.1 h1)
 ·exact fin _ (hs.set (zjq (hs.val _ _) (hs.val _ _))) (qc.2.2.1 h1)
 ·exact fin _ (ex (hs.val _ _)) (qc.2.2.2.1 h1)
 ·refine fin (zeO R x v) ?_ (qc.2.2.2.2.1 h1);have h:=ex (o:=v) (a:=v+(qz x.ar x.an R).1) (hs.val x.ar x.an);exact⟨h.d,h.c,fun i=>⟨zey (fun i=>(h.s i).1) (zjq (h.s _).1 (h.s _).2.2) i,(h.s i).2⟩⟩
 ·refine fin (zdo R x v) ?_ (qc.2.2.2.2.2.1 h1);unfold zdo
  split
  ·have h:=ex (o:=v) (a:=(qz x.br x.bn R).1) (hs.val x.br x.bn);exact⟨h.d,h.c,fun i=>⟨(h.s i).1,zey (fun i=>(h.s i).2.1) (zjq (h.s _).2.1 (zjq (h.s _).2.2 (hs.val _ _))) i,(h.s i).2.2⟩⟩
  ·exact (hs.emit (by decide)).set (zlA (by omega))
 ·exact fin _ (hs.emit (by decide)) (qc.2.2.2.2.2.2.1 h1)
 ·refine fin (zbE R x) ?_ (qc.2.2.2.2.2.2.2 h1);have h:RunS { R with ctl:=R.ctl|||((qz x.ar x.an R).2|||(qz x.br x.bn R).2) }:=⟨hs.d,zjq hs.c (zjq (hs.val _ _) (hs.val _ _)),hs.s⟩;unfold zbE;dsimp only
  split
  ·exact⟨h.d,h.c,h.s⟩
  ·exact h
theorem zqR:RunS zjc:=⟨fun _=>(by decide:0<2^32),by decide,fun _=>⟨(by decide:0<2^32),(by decide:0<2^32),(by decide:0<2^32)⟩⟩
def ThG (l:List InsD):Prop:=l.length<=12/\∀ i x,l[i]?=some x->ExG x/\(x.op=8->x.skip.toNat<=l.length-1-i)
theorem zir {x:InsD} {k n:Nat} (h:zgU x k n=true):ExG x/\(x.op=8->x.skip.toNat<=n)/\(x.op=1\/x.op=2\/x.op=4\/x.op=5\/x.op=6->x.loc.toNat<k):=by
 unfold zgU qJ at h;simp only [UC,List.all_nil,id_eq,Bool.and_true,bAT,dE,QJ] at h;obtain⟨⟨h1,h8⟩,-,hd,hl,⟨ha,hb⟩,-,-,hs⟩:=h;have arg:∀ {r:Bool} {n:UInt8},ziK r n=true->r=true->n.toNat<8:=fun {r n} h hr=>by
  subst hr;unfold ziK at h;simpa using h
 have ha:=arg ha;have hb:=arg hb;have key:∀ i,1<=i->i<=8->UInt8.ofNat i=1\/UInt8.ofNat i=2\/UInt8.ofNat i=3\/UInt8.ofNat i=4\/UInt8.ofNat i=5\/UInt8.ofNat i=6\/UInt8.ofNat i=7\/UInt8.ofNat i=8:=by
  intro i a b;have:i=1\/i=2\/i=3\/i=4\/i=5\/i=6\/i=7\/i=8:=by omega
  rcases this with e | e | e | e | e | e | e | e <;> subst e <;> decide
 have hop:=key x.op.toNat h1 h8;rw [UInt8.ofNat_toNat] at hop;refine⟨?_,fun e=>?_,fun e=>?_⟩
 ·unfold ExG;rcases hop with e | e | e | e | e | e | e | e
  ·exact .inl ⟨e,hd⟩
  ·exact .inr (.inl ⟨e,ha⟩)
  ·exact .inr (.inr (.inl ⟨e,hd,ha,hb⟩))
  ·exact .inr (.inr (.inr (.inl ⟨e,hd,ha⟩)))
  ·exact .inr (.inr (.inr (.inr (.inl ⟨e,hd,ha⟩))))
  ·exact .inr (.inr (.inr (.inr (.inr (.inl ⟨e,hd,ha,hb⟩)))))
  ·exact .inr (.inr (.inr (.inr (.inr (.inr (.inl e))))))
  ·exact .inr (.inr (.inr (.inr (.inr (.inr (.inr ⟨e,ha,hb⟩))))))
 ·rw [e] at hs;rcases hs with hs | hs
  ·exact Gs hs (by decide)
  ·exact hs.2
 ·rcases hl with hl | hl
  ·rcases e with e | e | e | e | e <;> rw [e] at hl <;> exact Gs hl (by decide)
  ·exact hl
theorem zki {l:List InsD} {k:Nat} (h:qr l k=true):ThG l:=by
 unfold qr at h;rw [bAT,dE,Qm] at h;refine⟨h.1,fun i x hi=>?_⟩;have hil:i<l.length:=(Js.1 hi).1;have:=h.2 i (Uq.2 hil);rw [hi] at this;exact⟨(zir this).1,(zir this).2.1⟩
structure RunOk (l:List InsD) (R:RunD):Prop where
 m:R.many<=2*R.pc
 p:R.pc<=l.length
 s:RunS R
theorem zlr (l:List InsD):RunOk l zjc:=⟨UY _,Gb _,zqR⟩
theorem zej {l:List InsD} {S:RunD} {x:InsD} {v:UInt8} (ht:ThG l) (h:RunOk l S) (hx:l[S.pc]?=some x):RunOk l (qi S x v)/\S.pc+1<=(qi S x v).pc:=by
 obtain⟨hx1,hx8⟩:=ht.2 _ _ hx;have hpl:S.pc<l.length:=(Js.1 hx).1;have hm:=h.m;have h12:=ht.1;have hs:=zmt (v:=v) h.s (by omega) hx1;have fin:∀ T:RunD,zel S x v=T->T.many<=2*T.pc+2->S.pc<=T.pc->T.pc+1<=l.length->RunOk l (qi S x v)/\S.pc+1<=(qi S x v).pc:=fun T e h1 h2 h3=>by
  have e2:qi S x v={ T with pc:=T.pc+1 }:=by unfold qi;rw [e]
  refine⟨⟨?_,?_,hs⟩,?_⟩
  ·rw [e2];dsimp only;omega
  ·rw [e2];exact h3
  ·rw [e2];dsimp only;omega
 rcases hx1 with ⟨e,-⟩ | ⟨e,-⟩ | ⟨e,-⟩ | ⟨e,-⟩ | ⟨e,-⟩ | ⟨e,-⟩ | e | ⟨e,-⟩
 ·exact fin _ (qc.1 e) (show S.many+1<=2*S.pc+2 by omega) (UY _) hpl
 ·exact fin _ (qc.2.1 e) (show S.many+1<=2*S.pc+2 by omega) (UY _) hpl
 ·exact fin _ (qc.2.2.1 e) (show S.many<=2*S.pc+2 by omega) (UY _) hpl
 ·exact fin _ (qc.2.2.2.1 e) (show S.many+1+1<=2*S.pc+2 by omega) (UY _) hpl
 ·exact fin _ (qc.2.2.2.2.1 e) (show S.many+1+1<=2*S.pc+2 by omega) (UY _) hpl
 ·obtain⟨c1,c2,c3⟩:=zoM (R:=S) (x:=x) (v:=v);exact fin _ (qc.2.2.2.2.2.1 e) (by omega) (by omega) (by omega)
 ·exact fin _ (qc.2.2.2.2.2.2.1 e) (show S.many+1<=2*S.pc+2 by omega) (UY _) hpl
 ·obtain⟨c1,c2,c3⟩:=zll (R:=S) (x:=x);have h8:=hx8 e;have hge:S.pc<=(zbE S x).pc:=by
   unfold zbE;dsimp only
   split
   ·exact QB _ _
   ·exact UY _
  exact fin _ (qc.2.2.2.2.2.2.2 e) (by omega) hge (by omega)
theorem zmy {x:InsD} (hx:ExG x):((x.op=1\/x.op=4\/x.op=5\/x.op=6)/\zbU x=true)\/((x.op≠1/\x.op≠4/\x.op≠5/\x.op≠6)/\zbU x=false):=by
 by_cases h:x.op=1\/x.op=4\/x.op=5\/x.op=6
 ·refine .inl ⟨h,?_⟩;unfold zbU;rcases h with e | e | e | e <;> rw [e] <;> rfl
 ·have h1:x.op≠1:=fun e=>h (.inl e);have h4:x.op≠4:=fun e=>h (.inr (.inl e));have h5:x.op≠5:=fun e=>h (.inr (.inr (.inl e)));have h6:x.op≠6:=fun e=>h (.inr (.inr (.inr e)));refine .inr ⟨⟨h1,h4,h5,h6⟩,?_⟩;unfold zbU;rw [Uj h1,Uj h4,Uj h5,Uj h6];rfl
section
variable {R:RunD} {b:Nat} {w:Wd} {l:List InsD} {q:OA} {cap:Nat}
theorem zfV (f:jq w b R) (hl:SlR zH w q l) (hq:l≠[]->∀ a,q=some a->a.block≠b) (ht:ThG l) (hR:RunOk l R) :
  Calls PG 38 #[AtR b,.slice q l.length cap] w fun e w'=>e = .returned (.bool (l[(goR l l.length R).pc]?).isSome)/\jq w' b (goR l l.length R)/\w.grownBy w' (some b)/\RunOk l (goR l l.length R)/\R.pc<=(goR l l.length R).pc:=by
 refine zI 34 [AtR b,.slice q l.length cap] Tryz.func38 ?_;have h12:=ht.1;refine⟨RunD×Nat,fun s=>⟨[(0,AtR b),(1,.slice q l.length cap)],[]⟩,
  fun s X=>(goR l l.length R=goR l s.2 s.1/\l.length<=s.2+s.1.pc/\RunOk l s.1/\R.pc<=s.1.pc)/\jq X b s.1/\w.grownBy X (some b),fun s=>l.length-s.1.pc,(R,l.length),
  (cvE rfl rfl),⟨⟨rfl,by omega,hR,UY _⟩,f,z8 w _⟩,?_⟩
 rintro⟨S,n⟩ X ⟨⟨he,hn,hS,hpp⟩,fX,gX⟩;dsimp only at he hn hS hpp fX ⊢;refine⟨_,zc (za fX) (i:=0) rfl,biE (fun hc=>?_) fun hc=>?_⟩
 ·have hc:(S.pc:Int)<(l.length:Int):=dT hc;have hi:S.pc<l.length:=by omega
  have hm:=hS.m;obtain⟨n,rfl⟩:∃ n',n=n'+1:=⟨n-1,by omega⟩;obtain⟨bq,oq,rfl,hlq,hat⟩:=(zmm hl (hq (List.ne_nil_of_length_pos (by omega))) gX).at hi;have hg:l[S.pc]?=some l[S.pc]:=gE hi;have hxi:=(ht.2 _ _ hg).1;refine⟨_,zc (za fX) (i:=0) rfl,S.pc,rfl,hi,_,zc (hat S.pc hi) (i:=0) rfl,?_⟩;have no:∀ k:UInt8,l[S.pc].op≠k->decide (((l[S.pc].op).toNat:Int)=(k.toNat:Int))=false:=fun k hk=>Uj fun e=>hk (jh.1 e);rcases zmy hxi with ⟨ho,hr⟩ | ⟨⟨o1,o4,o5,o6⟩,hr⟩
  ·have e1:goR l l.length R=S:=he.trans (zpP hg hr _);have fin:∀ {u:Bool},u=true->(Ending.returned (.bool u)=Ending.returned (.bool (l[(goR l l.length R).pc]?).isSome)/\jq X b (goR l l.length R)/\w.grownBy X (some b)/\RunOk l (goR l l.length R)/\R.pc<=(goR l l.length R).pc):=fun hu=>by
    rw [e1,hg,hu];exact⟨rfl,fX,gX,hS,hpp⟩
   rcases ho with ho | ho | ho | ho
   ·exact brE (by rw [ho];rfl) (brE (by rw [ho];rfl) (fin rfl))
   ·exact brN (no 1 (by rw [ho];decide)) (brE (by rw [ho];rfl) (brE (by rw [ho];rfl) (fin rfl)))
   ·exact brN (no 1 (by rw [ho];decide)) (brN (no 4 (by rw [ho];decide)) (brE (by rw [ho];rfl) (brE (by rw [ho];rfl) (fin rfl))))
   ·exact brN (no 1 (by rw [ho];decide)) (brN (no 4 (by rw [ho];decide)) (brN (no 5 (by rw [ho];decide)) (brE (by rw [ho];rfl) (fin rfl))))
  ·refine brN (no 1 o1) (brN (no 4 o4) (brN (no 5 o5) (brN (no 6 o6) ⟨_,zc (za fX) (i:=0) rfl,S.pc,rfl,hi,zH.enc l[S.pc],rfl,hat S.pc hi,hlq,cmo (zgw (v:=0) fX hS.s (by omega) (by omega) hxi) ?_⟩)));rintro e Y ⟨rfl,fY,gY⟩;obtain⟨x1,x2⟩:=zej (v:=0) ht hS hg;exact⟨(qi S l[S.pc] 0,n),(cvE rfl rfl),⟨⟨he.trans (zpO hg hr n),by dsimp only;omega,x1,by dsimp only;omega⟩,fY,zd gX gY⟩,by dsimp only;omega⟩
 ·have hc:¬ (S.pc:Int)<(l.length:Int):=dF hc;have hg:l[S.pc]?=none:=JM (by omega);have e1:goR l l.length R=S:=he.trans (zoh hg _);rw [e1,hg];exact⟨rfl,fX,gX,hS,hpp⟩
end
theorem zkO {l:List InsD} (ht:ThG l):∀ (n:Nat) (S:RunD),RunOk l S->RunOk l (goR l n S)
 | 0,S,h=>h
 | n+1,S,h=>by
  show RunOk l (match l[S.pc]? with | none=>S | some x=>if zbU x then S else goR l n (qi S x 0))
  cases hg:l[S.pc]? with
  | none=>exact h
  | some x =>
   dsimp only
   split
   ·exact h
   ·exact zkO ht n _ (zej ht h hg).1
theorem zfI {l:List InsD} (ht:ThG l) (dom:List UInt8):∀ (n:Nat) (S:RunD),RunOk l S->∀ R∈z4 l dom n S,RunOk l R
 | 0,S,h,R,hR=>by
  have hR:R∈[goR l l.length S]:=hR;rw [KD] at hR;rw [hR];exact zkO ht _ _ h
 | n+1,S,h,R,hR=>by
  have hT:=zkO ht l.length S h;have hR:R∈(match l[(goR l l.length S).pc]? with | none=>[goR l l.length S] | some x=>dom.flatMap fun v=>z4 l dom n (qi (goR l l.length S) x v)):=hR
  cases hg:l[(goR l l.length S).pc]? with
  | none =>
   rw [hg] at hR;have hR:=KD.1 hR;rw [hR];exact hT
  | some x =>
   rw [hg] at hR;obtain⟨v,-,hv⟩:=List.mem_flatMap.1 hR;exact zfI ht dom n _ (zej ht hT hg).1 R hv
theorem zow {l:List InsD} (ht:ThG l) (dom:List UInt8):∀ R∈jv l dom,RunOk l R:=zfI ht dom _ _ (zlr l)
theorem zfy {l:List InsD} (ht:ThG l) (dom:List UInt8):∀ R∈jv l dom,R.many<=24/\∀ i,R.data i<2^32/\R.ctrl i<2^32/\R.att i<2^32:=fun R hR=>by
 have h:=zow ht dom R hR;have h1:=h.m;have h2:=h.p;have h3:=ht.1;exact⟨by omega,fun i=>h.s.s i⟩
def Rds (ev:Nat->Ev) (n s:Nat):Prop:=∀ b,s.testBit b=true->b<n/\(ev b).k=1
theorem zfQ (ev:Nat->Ev) (n:Nat):Rds ev n 0:=fun b h=>by simp at h
theorem Rds.or {ev:Nat->Ev} {n s t:Nat} (h:Rds ev n s) (k:Rds ev n t):Rds ev n (s|||t):=fun b hb=>by
 rw [Ut,QJ] at hb;exact hb.elim (h b) (k b)
theorem Rds.mono {ev:Nat->Ev} {n m s:Nat} (h:Rds ev n s) (hm:n<=m):Rds ev m s:=fun b hb=>⟨nL (h b hb).1 hm,(h b hb).2⟩
theorem zfs {ev:Nat->Ev} {n b:Nat} (hb:b<n) (hk:(ev b).k=1):Rds ev n (2^b):=fun c hc=>by
 rw [Ks] at hc;have e:b=c:=dT hc;rw [<- e];exact⟨hb,hk⟩
theorem Rds.upd {ev:Nat->Ev} {n m s:Nat} {e:Ev} (h:Rds ev n s) (hm:n<=m):Rds (upd ev m e) n s:=fun b hb=>by
 obtain⟨h1,h2⟩:=h b hb;rw [zV _ _ (by omega)];exact⟨h1,h2⟩
def zrP (k i:Nat) (e:Ev):Prop:=e.th=0/\e.p=UInt8.ofNat i/\(((e.k=1\/e.k=2)/\e.l.toNat<k)\/(e.k=3/\e.l=0/\e.v=0))
structure RunW (k:Nat) (R:RunD):Prop where
 ev:∀ i,i<R.many->zrP k i (R.ev i)
 deps:∀ j,Rds R.ev R.many (R.deps j)
 ctl:Rds R.ev R.many R.ctl
 data:∀ i,i<R.many->Rds R.ev i (R.data i)/\(R.data i≠0->(R.ev i).k=2)
 ctrl:∀ i,i<R.many->Rds R.ev i (R.ctrl i)
 att:∀ i,i<R.many->R.att i=0\/∃ b,i=b+1/\R.att i=2^b/\(R.ev b).k=1/\(R.ev i).k=2/\(R.ev b).l=(R.ev i).l
 fresh:∀ i,R.many<=i->R.att i=0
theorem zqQ (k:Nat):RunW k zjc where
 ev:=fun i h=>Gs h (Ud i)
 deps:=fun j=>zfQ _ _
 ctl:=zfQ _ _
 data:=fun i h=>Gs h (Ud i)
 ctrl:=fun i h=>Gs h (Ud i)
 att:=fun i h=>Gs h (Ud i)
 fresh:=fun i _=>rfl
section
variable {k:Nat} {R:RunD} {x:InsD} {v:UInt8}
theorem RunW.val (h:RunW k R) (r:Bool) (n:UInt8):Rds R.ev R.many (qz r n R).2:=by
 unfold qz
 split
 ·exact h.deps _
 ·exact zfQ _ _
theorem RunW.emit (h:RunW k R) {kd l v m:UInt8} {d:Nat} (he:((kd=1\/kd=2)/\l.toNat<k)\/(kd=3/\l=0/\v=0)) (hd:Rds R.ev R.many d) (hk:d≠0->kd=2):RunW k (zaM R kd l v m d):=by
 have old:∀ {i:Nat},i<R.many->upd R.ev R.many ⟨0,kd,l,v,m,UInt8.ofNat R.pc,UInt8.ofNat R.many⟩ i=R.ev i:=fun {i} hi=>zV _ _ (by omega);have new:upd R.ev R.many ⟨0,kd,l,v,m,UInt8.ofNat R.pc,UInt8.ofNat R.many⟩ R.many=⟨0,kd,l,v,m,UInt8.ofNat R.pc,UInt8.ofNat R.many⟩:=zE _ _ _;have spl:∀ {i:Nat},i<R.many+1->i=R.many\/i<R.many:=fun {i} hi=>by omega
 refine⟨fun i hi=>?_,fun j=>(((h.deps j).upd (UY _)).mono (Nat.le_succ _)),(h.ctl.upd (UY _)).mono (Nat.le_succ _),fun i hi=>?_,fun i hi=>?_,fun i hi=>?_,fun i hi=>h.fresh i (by have:R.many+1<=i:=hi;omega)⟩
 ·show zrP k i (upd R.ev R.many _ i);rcases spl hi with e | hi
  ·rw [e,new];exact⟨rfl,rfl,he⟩
  ·rw [old hi];exact h.ev i hi
 ·show Rds (upd R.ev R.many _) i (upd R.data R.many d i)/\(upd R.data R.many d i≠0->(upd R.ev R.many _ i).k=2);rcases spl hi with e | hi
  ·rw [e,zE,new];exact⟨hd.upd (UY _),hk⟩
  ·rw [zV _ _ (by omega),old hi];exact⟨(h.data i hi).1.upd (Nat.le_of_lt hi),(h.data i hi).2⟩
 ·show Rds (upd R.ev R.many _) i (upd R.ctrl R.many R.ctl i);rcases spl hi with e | hi
  ·rw [e,zE];exact h.ctl.upd (UY _)
  ·rw [zV _ _ (by omega)];exact (h.ctrl i hi).upd (Nat.le_of_lt hi)
 ·show R.att i=0\/∃ b,i=b+1/\R.att i=2^b/\(upd R.ev R.many _ b).k=1/\(upd R.ev R.many _ i).k=2/\(upd R.ev R.many _ b).l=(upd R.ev R.many _ i).l;rcases spl hi with e | hi
  ·exact .inl (h.fresh i (by omega))
  ·rcases h.att i hi with h0 | ⟨b,hb,h1,h2,h3,h4⟩
   ·exact .inl h0
   ·refine .inr ⟨b,hb,h1,?_⟩;rw [old hi,old (by omega)];exact⟨h2,h3,h4⟩
theorem RunW.set (h:RunW k R) {d v:UInt8} {s:Nat} (hs:Rds R.ev R.many s):RunW k (zh1 R d v s):=by
 refine⟨h.ev,fun j=>?_,h.ctl,h.data,h.ctrl,h.att,h.fresh⟩;show Rds R.ev R.many (upd R.deps d.toNat s j);by_cases e:j=d.toNat
 ·rw [e,zE];exact hs
 ·rw [zV _ _ e];exact h.deps j
structure ExchW (k:Nat) (R S:RunD) (x:InsD):Prop where
 w:RunW k S
 m:S.many=R.many+2
 k1:(S.ev R.many).k=1
 k2:(S.ev (R.many+1)).k=2
 a:S.att (R.many+1)=2^R.many
theorem RunW.exch (h:RunW k R) (hl:x.loc.toNat<k) {o v:UInt8} {d:Nat} (hd:Rds R.ev R.many d):ExchW k R (zcD R x o v d) x:=by
 have h1:=h.emit (kd:=1) (l:=x.loc) (v:=o) (m:=3) (d:=0) (.inl ⟨.inl rfl,hl⟩) (zfQ _ _) (fun e=>Gs rfl e);have hd1:Rds (zaM R 1 x.loc o 3 0).ev (R.many+1) d:=(hd.upd (UY _)).mono (Nat.le_succ _);have h2:=h1.emit (kd:=2) (l:=x.loc) (v:=v) (m:=3) (d:=d) (.inl ⟨.inr rfl,hl⟩) hd1 (fun _=>rfl);obtain⟨S,hS⟩:=nm (zaM (zaM R 1 x.loc o 3 0) 2 x.loc v 3 d);rw [<- hS] at h2;have sm:S.many=R.many+2:=by rw [hS];rfl
 have e1:S.ev R.many=⟨0,1,x.loc,o,3,UInt8.ofNat R.pc,UInt8.ofNat R.many⟩:=by
  rw [hS];show upd (upd R.ev R.many _) (R.many+1) _ R.many=_;rw [zV _ _ (by omega),zE]
 have e2:S.ev (R.many+1)=⟨0,2,x.loc,v,3,UInt8.ofNat R.pc,UInt8.ofNat (R.many+1)⟩:=by
  rw [hS];show upd (upd R.ev R.many _) (R.many+1) _ (R.many+1)=_;rw [zE];rfl
 have h3:RunW k { S with att:=upd S.att (R.many+1) (2^R.many) }:=by
  refine⟨h2.ev,h2.deps,h2.ctl,h2.data,h2.ctrl,fun i hi=>?_,fun i hi=>?_⟩
  ·show upd S.att (R.many+1) (2^R.many) i=0\/∃ b,i=b+1/\upd S.att (R.many+1) (2^R.many) i=2^b/\(S.ev b).k=1/\(S.ev i).k=2/\(S.ev b).l=(S.ev i).l;by_cases e:i=R.many+1
   ·rw [e,zE];exact .inr ⟨R.many,rfl,rfl,by rw [e1],by rw [e2],by rw [e1,e2]⟩
   ·rw [zV _ _ e];exact h2.att i hi
  ·show upd S.att (R.many+1) (2^R.many) i=0;have hi:S.many<=i:=hi;rw [zV _ _ (by omega)];exact h2.fresh i hi
 have h4:=RunW.set (d:=x.dst) (v:=o) h3 (zfs (b:=R.many) (by show R.many<S.many;omega) (by show (S.ev R.many).k=1;rw [e1]));have e5:zcD R x o v d=zh1 { S with att:=upd S.att (R.many+1) (2^R.many) } x.dst o (2^R.many):=by rw [hS];rfl
 rw [e5];exact⟨h4,sm,by show (S.ev R.many).k=1;rw [e1],by show (S.ev (R.many+1)).k=2;rw [e2],zE _ _ _⟩
theorem ExchW.rd {S:RunD} (h:ExchW k R S x):Rds S.ev (R.many+1) (2^R.many):=zfs (QD _) h.k1
theorem RunW.fetch (h:RunW k R) (hl:x.loc.toNat<k):RunW k (zeO R x v):=by
 have h1:=RunW.exch (o:=v) (v:=v+(qz x.ar x.an R).1) (d:=(qz x.ar x.an R).2) h hl (h.val x.ar x.an);obtain⟨S,hS⟩:=nm (zcD R x v (v+(qz x.ar x.an R).1) (qz x.ar x.an R).2);rw [<- hS] at h1;have e:zeO R x v={ S with data:=upd S.data (R.many+1) (S.data (R.many+1)|||S.att (R.many+1)) }:=by rw [hS];rfl
 rw [e];have hw:=h1.w;have hm:=h1.m;refine⟨hw.ev,hw.deps,hw.ctl,fun i hi=>?_,hw.ctrl,hw.att,hw.fresh⟩;show Rds S.ev i (upd S.data (R.many+1) _ i)/\(upd S.data (R.many+1) _ i≠0->(S.ev i).k=2);by_cases e:i=R.many+1
 ·rw [e,zE,h1.a];exact⟨(hw.data _ (by omega)).1.or h1.rd,fun _=>h1.k2⟩
 ·rw [zV _ _ e];exact hw.data i hi
theorem RunW.cas (h:RunW k R) (hl:x.loc.toNat<k):RunW k (zdo R x v):=by
 by_cases hv:v=(qz x.ar x.an R).1
 ·have h1:=RunW.exch (o:=v) (v:=(qz x.br x.bn R).1) (d:=(qz x.br x.bn R).2) h hl (h.val x.br x.bn);obtain⟨S,hS⟩:=nm (zcD R x v (qz x.br x.bn R).1 (qz x.br x.bn R).2);rw [<- hS] at h1;have hw:=h1.w;have hm:=h1.m;have ha:Rds S.ev (R.many+1) (qz x.ar x.an R).2:=by
   have h2:Rds R.ev R.many (qz x.ar x.an R).2:=h.val _ _;have e1:∀ b,b<R.many->S.ev b=R.ev b:=fun b hb=>by
    rw [hS];show upd (upd R.ev R.many _) (R.many+1) _ b=_;rw [zV _ _ (by omega),zV _ _ (by omega)]
   intro b hb;obtain⟨c1,c2⟩:=h2 b hb;rw [e1 b c1];exact⟨by omega,c2⟩
  have e:zdo R x v={ S with ctrl:=upd S.ctrl (R.many+1) (S.ctrl (R.many+1)|||(S.att (R.many+1)|||(qz x.ar x.an R).2)) }:=by
   unfold zdo;rw [Gr hv,hS]
  rw [e];clear e;refine⟨hw.ev,hw.deps,hw.ctl,hw.data,fun i hi=>?_,hw.att,hw.fresh⟩;show Rds S.ev i (upd S.ctrl (R.many+1) _ i);by_cases e:i=R.many+1
  ·rw [e,zE,h1.a];exact (hw.ctrl _ (by omega)).or (h1.rd.or ha)
  ·rw [zV _ _ e];exact hw.ctrl i hi
 ·have e:zdo R x v=zh1 (zaM R 1 x.loc v 3 0) x.dst v (2^R.many):=by unfold zdo;rw [Gq hv]
  rw [e];have h1:=h.emit (kd:=1) (l:=x.loc) (v:=v) (m:=3) (d:=0) (.inl ⟨.inl rfl,hl⟩) (zfQ _ _) (fun e=>Gs rfl e);refine RunW.set h1 (zfs (b:=R.many) (QD _) ?_);show (upd R.ev R.many _ R.many).k=1;rw [zE]
theorem RunW.pc (h:RunW k R) (n:Nat):RunW k { R with pc:=n }:=⟨h.ev,h.deps,h.ctl,h.data,h.ctrl,h.att,h.fresh⟩
theorem RunW.eff (h:RunW k R) (hx:ExG x) (hl:x.op=1\/x.op=2\/x.op=4\/x.op=5\/x.op=6->x.loc.toNat<k):RunW k (zel R x v):=by
 rcases hx with ⟨e,-⟩ | ⟨e,-⟩ | ⟨e,-⟩ | ⟨e,-⟩ | ⟨e,-⟩ | ⟨e,-⟩ | e | ⟨e,-⟩
 ·rw [qc.1 e];have h1:=h.emit (kd:=1) (l:=x.loc) (v:=v) (m:=x.mode) (d:=0) (.inl ⟨.inl rfl,hl (.inl e)⟩) (zfQ _ _) (fun e=>Gs rfl e);refine RunW.set h1 (zfs (b:=R.many) (QD _) ?_);show (upd R.ev R.many _ R.many).k=1;rw [zE]
 ·rw [qc.2.1 e];exact h.emit (.inl ⟨.inr rfl,hl (.inr (.inl e))⟩) (h.val _ _) (fun _=>rfl)
 ·rw [qc.2.2.1 e];exact h.set ((h.val _ _).or (h.val _ _))
 ·rw [qc.2.2.2.1 e];exact (h.exch (hl (.inr (.inr (.inl e)))) (h.val _ _)).w
 ·rw [qc.2.2.2.2.1 e];exact h.fetch (hl (.inr (.inr (.inr (.inl e)))))
 ·rw [qc.2.2.2.2.2.1 e];exact h.cas (hl (.inr (.inr (.inr (.inr e)))))
 ·rw [qc.2.2.2.2.2.2.1 e];exact h.emit (.inr ⟨rfl,rfl,rfl⟩) (zfQ _ _) (fun e=>Gs rfl e)
 ·rw [qc.2.2.2.2.2.2.2 e];have h1:RunW k { R with ctl:=R.ctl|||((qz x.ar x.an R).2|||(qz x.br x.bn R).2) }:=⟨h.ev,h.deps,h.ctl.or ((h.val _ _).or (h.val _ _)),h.data,h.ctrl,h.att,h.fresh⟩;unfold zbE;dsimp only
  split
  ·exact h1.pc _
  ·exact h1
theorem RunW.exec (h:RunW k R) (hx:ExG x) (hl:x.op=1\/x.op=2\/x.op=4\/x.op=5\/x.op=6->x.loc.toNat<k):RunW k (qi R x v):=RunW.pc (h.eff hx hl) _
end
def ThW (k:Nat) (l:List InsD):Prop:=∀ x∈l,ExG x/\(x.op=1\/x.op=2\/x.op=4\/x.op=5\/x.op=6->x.loc.toNat<k)
theorem zqO {l:List InsD} {k:Nat} (h:qr l k=true):ThW k l:=fun x hx=>by
 unfold qr at h;rw [bAT,dE,Qm] at h;obtain⟨i,hi,rfl⟩:=Kl hx;have:=h.2 i (Uq.2 hi);rw [gE hi] at this;exact⟨(zir this).1,(zir this).2.2⟩
theorem RunW.go {k:Nat} {l:List InsD} (ht:ThW k l):∀ (n:Nat) (S:RunD),RunW k S->RunW k (goR l n S)
 | 0,S,h=>h
 | n+1,S,h=>by
  show RunW k (match l[S.pc]? with | none=>S | some x=>if zbU x then S else goR l n (qi S x 0))
  cases hg:l[S.pc]? with
  | none=>exact h
  | some x =>
   dsimp only
   split
   ·exact h
   ·obtain⟨a,b⟩:=ht x (Kb hg);exact RunW.go ht n _ (h.exec a b)
theorem RunW.spread {k:Nat} {l:List InsD} (ht:ThW k l) (dom:List UInt8):∀ (n:Nat) (S:RunD),RunW k S->∀ R∈z4 l dom n S,RunW k R
 | 0,S,h,R,hR=>by
  have hR:R∈[goR l l.length S]:=hR;rw [KD] at hR;rw [hR];exact RunW.go ht _ _ h
 | n+1,S,h,R,hR=>by
  have hT:=RunW.go ht l.length S h;have hR:R∈(match l[(goR l l.length S).pc]? with | none=>[goR l l.length S] | some x=>dom.flatMap fun v=>z4 l dom n (qi (goR l l.length S) x v)):=hR
  cases hg:l[(goR l l.length S).pc]? with
  | none =>
   rw [hg] at hR;have hR:=KD.1 hR;rw [hR];exact hT
  | some x =>
   rw [hg] at hR;obtain⟨v,-,hv⟩:=List.mem_flatMap.1 hR;obtain⟨a,b⟩:=ht x (Kb hg);exact RunW.spread ht dom n _ (hT.exec a b) R hv
theorem zrn {l:List InsD} {k:Nat} (h:qr l k=true) (dom:List UInt8):∀ R∈jv l dom,RunW k R/\R.many<=24:=fun R hR =>
 ⟨RunW.spread (zqO h) dom _ _ (zqQ k) R hR,(zfy (zki h) dom R hR).1⟩
structure PathW (k:Nat) (P:PathD):Prop where
 n:P.ev.length<=24
 ev:∀ i e,P.ev[i]?=some e->zrP k i e
 dt:∀ p∈P.data,∃ a b,P.ev[p.1]?=some a/\P.ev[p.2]?=some b/\p.1<p.2/\a.k=1/\b.k=2
 ct:∀ p∈P.ctrl,∃ a b,P.ev[p.1]?=some a/\P.ev[p.2]?=some b/\p.1<p.2/\a.k=1
 rm:∀ p∈P.rmw,∃ a b,P.ev[p.1]?=some a/\P.ev[p.2]?=some b/\p.2=p.1+1/\a.k=1/\b.k=2/\a.l=b.l
 dtl:P.data.length<=100000
 ctl:P.ctrl.length<=100000
 rml:P.rmw.length<=100000
theorem zdC {f:Nat->Nat} {n:Nat} {p:Nat×Nat} (h:p∈zcM f n):p.2<n/\(f p.2).testBit p.1=true:=by
 unfold zcM at h;obtain⟨i,hi,h⟩:=List.mem_flatMap.1 h;obtain⟨a,ha,rfl⟩:=UL.1 h;exact⟨Uq.1 hi,(zaC.1 ha).2⟩
theorem zeH (f:Nat->Nat) {n:Nat} (h:n<=24):(zcM f n).length<=100000:=by
 rw [<- zc6];have:=zeG ((List.range n).map f) 0;rw [QQ,KY] at this;omega
theorem zcs {R:RunD} {i:Nat} (h:i<R.many):(za8 R).ev[i]?=some (R.ev i):=by
 show ((List.range R.many).map R.ev)[i]?=_;rw [KX,Kk h];rfl
theorem zq1 {k:Nat} {R:RunD} (h:RunW k R) (hm:R.many<=24):PathW k (za8 R):=by
 have hl:(za8 R).ev.length=R.many:=by show ((List.range R.many).map R.ev).length=_;rw [QQ,KY]
 refine⟨by omega,fun i e he=>?_,fun p hp=>?_,fun p hp=>?_,fun p hp=>?_,zeH _ hm,zeH _ hm,zeH _ hm⟩
 ·have hi:i<R.many:=by rw [<- hl];exact (Js.1 he).1
  rw [zcs hi] at he;rw [<- Uh he];exact h.ev i hi
 ·obtain⟨h1,h2⟩:=zdC hp;obtain⟨h3,h4⟩:=h.data _ h1;obtain⟨h5,h6⟩:=h3 _ h2;exact⟨_,_,zcs (by omega),zcs h1,h5,h6,h4 (fun e=>by rw [e] at h2;simp at h2)⟩
 ·obtain⟨h1,h2⟩:=zdC hp;obtain⟨h5,h6⟩:=h.ctrl _ h1 _ h2;exact⟨_,_,zcs (by omega),zcs h1,h5,h6⟩
 ·obtain⟨h1,h2⟩:=zdC hp;rcases h.att _ h1 with e | ⟨b,e1,e2,e3,e4,e5⟩
  ·rw [e] at h2;simp at h2
  ·rw [e2,Ks] at h2;have e:b=p.1:=dT h2;subst e;exact⟨_,_,zcs (by omega),zcs h1,e1,e3,e4,e5⟩
theorem PathW.b {k:Nat} {P:PathD} (h:PathW k P):PathB k P:=by
 have lt:∀ {i:Nat} {e:Ev},P.ev[i]?=some e->i<P.ev.length:=fun {i e} he=>(Js.1 he).1;refine⟨h.n,fun e he hk=>?_,fun p hp=>?_,fun p hp=>?_,fun p hp=>?_,h.dtl,h.ctl,h.rml⟩
 ·obtain⟨i,hi,rfl⟩:=Kl he;rcases (h.ev i _ (gE hi)).2.2 with h1 | ⟨h1,_⟩
  ·exact h1.2
  ·rw [h1] at hk;rcases hk with hk | hk <;> exact Gs hk (by decide)
 ·obtain⟨a,b,h1,h2,_⟩:=h.dt p hp;exact⟨lt h1,lt h2⟩
 ·obtain⟨a,b,h1,h2,_⟩:=h.ct p hp;exact⟨lt h1,lt h2⟩
 ·obtain⟨a,b,h1,h2,_⟩:=h.rm p hp;exact⟨lt h1,lt h2⟩
end Go.Proofs.YtpalcnbhkigagaaGreatDoor
namespace Go.Sei
def zeo (f:Nat->Bool) (n:Nat):Nat:=((List.range n).filter f).length
theorem zkM (e:Ev) (es:List Ev):jb (e::es)=if e.th = -1 then jb es+1 else 0:=by
 unfold jb;rw [Kr];by_cases h:e.th = -1
 ·rw [Gr (Uu h),Gr h,Qv]
 ·rw [Gq (by simp [h]),Gq h];rfl
section
variable {L:List Ev} {locs:Nat}
theorem zce (f:Nat->Bool) (n:Nat):zeo f (n+1)=zeo f n+if f n=true then 1 else 0:=by
 unfold zeo;rw [QY,Ky,lap,Qq,List.filter_nil]
 split <;> rfl
theorem zoH {f:Nat->Bool} {n:Nat} (h:∀ k,k<n->f k=false):zeo f n=0:=by
 unfold zeo;rw [List.length_eq_zero_iff,JF];intro k hk;rw [h k (Uq.1 hk)];decide
end
theorem zhF (ev:List Ev) (a k:Nat):(ev.drop a).getD k ev0=ev.getD (a+k) ev0:=by
 rw [gDe,gDe,Kz]
end Go.Sei
namespace Go.Proofs.YtpalcnbhkigagaaGreatDoor
open Go.Vc Go.RowKit Go.Sei
theorem zhi (k:Nat) (p:Nat->Bool):zkt (k+1) p=if p k=true then zkt k p|||2^k else zkt k p:=by
 unfold zkt;rw [QY,KW];rfl
theorem zh7 (p:Nat->Bool):∀ k,k<=64->zkt k p<2^64
 | 0,_=>by show 0<_;decide
 | k+1,h=>by
  rw [zhi]
  split
  ·exact Qb (zh7 p k (by omega)) (qb (by omega))
  ·exact zh7 p k (by omega)
theorem znT {n:Nat} {p:Nat->Nat->Bool} (hn:n<=64):zX (zlD n p).to:=zm2 fun i _ _=>zh7 _ n hn
structure RelOk (n:Nat) (r:RelD):Prop where
 n:r.n=n
 ok:okR r=true
 w:zX r.to
section
variable {n:Nat} {r a b:RelD}
theorem RelOk.le (h:RelOk n r):n<=48:=by
 have:=(zar h.ok).2.1;have:=h.n;omega
theorem RelOk.bit (h:RelOk n r) {i j:Nat} (hi:i<48) (hb:zL r i j=true):i<n/\j<n:=by
 have:=zij h.ok h.w hi hb;have:=h.n;omega
theorem zq9 (hn:r.n=n) (h48:n<=48) (h:∀ i j,i<48->zL r i j=true->i<n/\j<n):okR r=true:=by
 unfold okR;rw [bAT,bAT,dE,dE,Qm];refine⟨by omega,by omega,fun i hi=>?_⟩;have hi:=Uq.1 hi;unfold zbs;rw [bAT,QJ,dE,dE,dE];refine⟨?_,?_⟩
 ·rw [za0,zan];apply Ke;intro j;rw [QG];by_cases hj:j<64
  ·rw [zat (zaG _) hj,zbB (by omega) (by omega) hj]
   cases hb:(r.to i).testBit j with
   | false=>rfl
   | true =>
    have:=(h i j hi hb).2;rw [Uu (by omega)];rfl
  ·have:=JK (nL (KH (show qa (r.to i) (zac r.n)<=_ from QA) (show 18446744073709551615-zac r.n<2^64 by omega)) (Kg (show 0<2 by decide) (show 64<=j by omega)));exact this
 ·by_cases hin:i<n
  ·exact .inl (by omega)
  ·refine .inr (Ke fun j=>?_);rw [QG]
   cases hb:(r.to i).testBit j with
   | false=>rfl
   | true=>exact Gs (h i j hi hb).1 hin
theorem RelOk.of (hn:r.n=n) (h48:n<=48) (h:∀ i j,i<48->zL r i j=true->i<n/\j<n) (hw:zX r.to):RelOk n r:=⟨hn,zq9 hn h48 h,hw⟩
theorem zh5 (p:Nat->Bool):∀ k j,(zkt k p).testBit j=(decide (j<k)&&p j)
 | 0,j=>by
  show (0:Nat).testBit j=_;simp
 | k+1,j=>by
  rw [zhi]
  split
  ·rename_i h;rw [Ut,zh5 p k j,zaW];by_cases e:j=k
   ·subst e;simp [h]
   ·rw [Uj e,Uz];congr 1;exact QI.2 (by omega)
  ·rename_i h;rw [zh5 p k j];by_cases e:j=k
   ·subst e;have:p j=false:=(by simpa using h);rw [this,Uk,Uk]
   ·congr 1;exact QI.2 (by omega)
theorem zm3 {f:Nat->Nat} {i j:Nat}:zL (zbA n f) i j=(decide (i<n)&&(f i).testBit j):=by
 unfold zL zbA;dsimp only
 split
 ·rename_i h;rw [Uu h];rfl
 ·rename_i h;rw [Uj h,QG];rfl
theorem znU {p:Nat->Nat->Bool} {i j:Nat}:zL (zlD n p) i j=(decide (i<n)&&(decide (j<n)&&p i j)):=by
 unfold zlD;rw [zm3,zh5]
theorem RelOk.pick (h:n<=48) (p:Nat->Nat->Bool):RelOk n (zlD n p):=by
 refine .of rfl h (fun i j _ hb=>?_) (znT (by omega));rw [znU] at hb;simp only [bAT,dE] at hb;exact⟨hb.1,hb.2.1⟩
theorem zdl (ha:RelOk n a) {i j:Nat} (hi:i<64):zL (zR a) i j=(decide (j<n)&&zL a j i):=by
 unfold zL;rw [zj5 ha.ok];have e1:decide ((j:Int)<a.n)=decide (j<n):=QI.2 (by have:=ha.n;omega);have e2:decide (i∈els (a.to j))=(a.to j).testBit i:=by
  cases h:(a.to j).testBit i with
  | true=>exact Uu (zaC.2 ⟨hi,h⟩)
  | false=>exact Uj fun hm=>by rw [(zaC.1 hm).2] at h;cases h
 rw [e1,e2]
theorem RelOk.back (ha:RelOk n a):RelOk n (zR a):=by
 have h48:=ha.le;have hbit:∀ i j,i<48->zL (zR a) i j=true->i<n/\j<n:=fun i j hi h=>by
  rw [zdl ha (by omega),bAT,dE] at h;exact⟨(ha.bit (by omega) h.2).2,h.1⟩
 refine .of ?_ h48 hbit fun i hi=>?_
 ·unfold zR;rw [Gr ha.ok];exact ha.n
 ·apply QC;intro hge;obtain⟨j,hj1,hj2⟩:=Ja hge;have:=(hbit i j hi hj2).2;omega
def zpd (before:Nat->Nat) (left:Nat):Prop:=∀ S,S≠0->S&&&left=S->∃ i∈els S,before i&&&S=0
theorem zlj {before:Nat->Nat}:∀ (m left:Nat) (l:List Nat),left<2^64->(els left).length<=m->((zhY before m left l).isSome=true↔zpd before left)
 | 0,left,l,h64,hm=>by
  have h0:left=0:=zdg h64 (by rw [Qu];exact List.length_eq_zero_iff.1 (by omega));subst h0;exact⟨fun _ S hS he=>Gs he.symm (by rw [Nat.and_zero];exact hS),fun _=>rfl⟩
 | m+1,left,l,h64,hm=>by
  by_cases h0:left=0
  ·subst h0;have e:zhY before (m+1) 0 l=some l:=Gr rfl;rw [e];exact⟨fun _ S hS he=>Gs he.symm (by rw [Nat.and_zero];exact hS),fun _=>rfl⟩
  have e:zhY before (m+1) left l=match zbN before left with | none=>none | some a=>zhY before m (jE left (2^a)) (l++[a]):=Gq h0
  rw [e]
  cases hf:zbN before left with
  | none =>
   refine⟨fun h=>(by cases h),fun h=>?_⟩;obtain⟨i,hi,hb⟩:=h left h0 (Nat.and_self _);unfold zbN at hf;rw [List.find?_eq_none] at hf;exact Gs (Uu hb) (hf i hi)
  | some k =>
   have hk:=zjH hf;have hk2:before k&&&left=0:=by
    unfold zbN at hf;have:=List.find?_some hf;exact dT this
   have hk64:=zox hk;have hlen:=j7 h64 hk;have hsub:∀ S,S&&&qa left (2^k)=S->S&&&left=S:=fun S h=>by
    rw [<- h];unfold qa;apply Ke;intro j;simp only [Ue]
    cases S.testBit j <;> cases left.testBit j <;> simp
   dsimp only;rw [za0,zlj m (qa left (2^k)) (l++[k]) (qW h64) (by omega)];constructor
   ·intro h S hS he;by_cases hm2:k∈els S
    ·refine⟨k,hm2,?_⟩;rw [<- he,Nat.and_comm S left,<- Nat.and_assoc,hk2,Nat.zero_and]
    ·refine h S hS (Ke fun j=>?_);rw [Ue]
     cases hb:S.testBit j with
     | false=>rfl
     | true =>
      have hl:left.testBit j=true:=by
       have h2:=hb;rw [<- he,Ue,bAT] at h2;exact h2.2
      have hj:j<64:=by
       apply QC;intro hj;have:=JK (nL h64 (Kg (by decide) hj));rw [this] at hl;cases hl
      have hjk:¬ j=k:=fun e=>hm2 (zaC.2 ⟨hk64,by rw [<- e];exact hb⟩);rw [zat (qb hk64) hj,hl,zaW,Uj hjk];rfl
   ·exact fun h S hS he=>h S hS (hsub S he)
theorem zqt (ha:RelOk n a):zg2 a=true↔zpd (zR a).to (zac n):=by
 have h48:=ha.le;unfold zg2 zdS;rw [Gr ha.ok,zan,ha.n];refine zlj 64 _ _ (zaG _) ?_;unfold els;have:=JO (fun i=>(zac n).testBit i) (List.range 64);rw [KY] at this;exact this
end
structure WX (x:ExD):Prop where
 po:zX x.po.to
 rf:zX x.rf.to
 co:zX x.co.to
 dt:zX x.dt.to
 ct:zX x.ct.to
 rm:zX x.rm.to
structure XOk (x:ExD):Prop where
 n:x.ev.length<=48
 po:RelOk x.ev.length x.po
 rf:RelOk x.ev.length x.rf
 co:RelOk x.ev.length x.co
 dt:RelOk x.ev.length x.dt
 ct:RelOk x.ev.length x.ct
 rm:RelOk x.ev.length x.rm
 ev:jF x.ev (jb x.ev)=true
 poE:qM x.po (poR x.ev)=true
 rfR:zaj x=true
 coR:zam x (jb x.ev)=true
 dep:za2 x=true
section
variable {n:Nat} {a b:RelD} {x:ExD}
theorem zl9 {t:Int}:∀ (es:List Ev) (j s k:Nat),(zfW t j es s).testBit k=true↔s.testBit k=true\/∃ m,m<es.length/\k=j+m/\(es.getD m ev0).th=t
 | [],j,s,k=>by
  show s.testBit k=true↔_;simp
 | e::es,j,s,k=>by
  show (zfW t (j+1) es (if e.th=t then s|||2^j else s)).testBit k=true↔_;rw [zl9 es];have hs:(if e.th=t then s|||2^j else s).testBit k=true↔s.testBit k=true\/(k=j/\e.th=t):=by
   split
   ·rename_i h;rw [Ut,zaW,QJ,dE];simp [h]
   ·rename_i h;simp [h]
  rw [hs];constructor
  ·rintro ((h | ⟨h1,h2⟩) | ⟨m,h1,h2,h3⟩)
   ·exact .inl h
   ·exact .inr ⟨0,by simp,h1,h2⟩
   ·exact .inr ⟨m+1,by simpa using h1,by omega,by simpa using h3⟩
  ·rintro (h | ⟨m,h1,h2,h3⟩)
   ·exact .inl (.inl h)
   ·cases m with
    | zero=>exact .inl (.inr ⟨h2,h3⟩)
    | succ m=>exact .inr ⟨m,by simpa using h1,by omega,by simpa using h3⟩
theorem ze8 {key:Nat->Nat} {y:Nat}:∀ r:List Nat,(ja key r y).Perm (y::r)
 | [] => .refl _
 | z::r=>by
  unfold ja
  split
  ·exact ((ze8 r).cons z).trans (.swap y z r)
  ·exact .refl _
theorem zhC {key:Nat->Nat}:∀ (l acc:List Nat),(l++acc).Nodup->(l.foldl (fun acc x=>ja key acc x) acc).Nodup
 | [],acc,h=>h
 | y::l,acc,h=>zhC l _ (by
   have p:(l++ja key acc y).Perm (y::l++acc):=((ze8 acc).append_left l).trans List.perm_middle;exact p.nodup_iff.2 h)
theorem zkz (l:Nat):(zP x l).Nodup:=by
 unfold zP zcI;refine (List.reverse_perm _).nodup_iff.2 (zhC _ _ ?_);rw [QM];exact List.nodup_range.filter _
end
section
variable {n:Nat} {r:RelD} {x:ExD}
theorem zp6 {j:Nat} (h:j<64):ctz (2^j)=j:=by
 have h2:(2:Nat)^j<2^64:=Kh (by decide) h;have:=(zaC.1 (ziz (Nat.ne_of_gt (Nat.pow_pos (by decide))) h2)).2;rw [zaW] at this;exact dT this
theorem zrD {s:Nat} (h:s≠0):∃ j,s.testBit j=true:=by
 refine Jp fun hn=>h (Ke fun j=>?_);rw [QG]
 cases hb:s.testBit j with
 | false=>rfl
 | true=>exact (hn ⟨j,hb⟩).elim
theorem zqU (hrf:RelOk x.ev.length x.rf):zaj x=true↔(∀ a b,a<x.ev.length->b<x.ev.length->zL x.rf a b=true->isW x a=true/\isR x b=true/\(evA x a).l=(evA x b).l/\(evA x a).v=(evA x b).v) /\
  ∀ b,b<x.ev.length->isR x b=true->(∃ j,j<x.ev.length/\zL x.rf j b=true)/\∀ i j,i<x.ev.length->j<x.ev.length->zL x.rf i b=true->zL x.rf j b=true->i=j:=by
 have h48:=hrf.le;have bk:∀ i,i<x.ev.length->∀ j,((zR x.rf).to i).testBit j=(decide (j<x.ev.length)&&zL x.rf j i):=fun i hi j=>zdl hrf (by omega);have w64:∀ i,i<x.ev.length->(zR x.rf).to i<2^64:=fun i hi=>hrf.back.w i (by omega);unfold zaj;rw [Qm];constructor
 ·intro h;have one:∀ b,b<x.ev.length->∀ a,zL x.rf a b=true->a<x.ev.length->(evA x b).k=1/\a=ctz ((zR x.rf).to b)/\(evA x a).k=2/\(evA x a).l=(evA x b).l/\(evA x a).v=(evA x b).v:=fun b hb a hab ha=>by
   have h1:=h b (Uq.2 hb);have hbit:((zR x.rf).to b).testBit a=true:=by rw [bk b hb,hab,Uu ha];rfl
   have h0:¬ (zR x.rf).to b=0:=fun e=>by rw [e,QG] at hbit;cases hbit
   unfold zbH at h1;by_cases hk:(evA x b).k=1
   ·rw [Gr hk,Gq h0] at h1;by_cases hs:(zR x.rf).to b=2^ctz ((zR x.rf).to b)
    ·rw [Gr hs] at h1;have hz:a=ctz ((zR x.rf).to b):=by
      rw [hs,zaW] at hbit;exact dT hbit
     rw [<- hz] at h1;simp only [bAT,dE] at h1;exact⟨hk,hz,h1⟩
    ·rw [Gq hs] at h1;cases h1
   ·rw [Gq hk] at h1;exact (h0 (dT h1)).elim
  refine⟨fun a b ha hb hab=>?_,fun b hb hr=>⟨?_,fun i j hi hj h1 h2=>?_⟩⟩
  ·obtain⟨h1,_,h3,h4⟩:=one b hb a hab ha;exact⟨Uu h3,Uu h1,h4⟩
  ·have h1:=h b (Uq.2 hb);unfold zbH at h1;rw [Gr (dT hr:(evA x b).k=1)] at h1;by_cases h0:(zR x.rf).to b=0
   ·rw [Gr h0] at h1;cases h1
   ·obtain⟨j,hj⟩:=zrD h0;rw [bk b hb,bAT,dE] at hj;exact⟨j,hj⟩
  ·exact (one b hb i h1 hi).2.1.trans (one b hb j h2 hj).2.1.symm
 ·rintro⟨h1,h2⟩ b hb;have hb:=Uq.1 hb;unfold zbH;by_cases hk:(evA x b).k=1
  ·rw [Gr hk];obtain⟨⟨j,hj,hj1⟩,hu⟩:=h2 b hb (Uu hk);have hs:(zR x.rf).to b=2^j:=Ke fun i=>by
    rw [bk b hb,zaW];by_cases hij:i=j
    ·rw [hij,hj1,Uu hj,Uu rfl];rfl
    ·rw [Uj hij]
     cases hi:zL x.rf i b with
     | false=>rw [Uk]
     | true =>
      by_cases hin:i<x.ev.length
      ·exact (hij (hu i j hin hj hi hj1)).elim
      ·rw [Uj hin];rfl
   have hz:ctz ((zR x.rf).to b)=j:=by rw [hs];exact zp6 (by omega)
   have h0:¬ (zR x.rf).to b=0:=by rw [hs];exact Nat.ne_of_gt (Nat.pow_pos (by decide))
   rw [Gq h0,hz,Gr hs];obtain⟨a1,_,a3,a4⟩:=h1 j b hj hb hj1;rw [Uu (dT a1:(evA x j).k=2),Uu a3,Uu a4];rfl
  ·rw [Gq hk];refine Uu (Ke fun j=>?_);rw [bk b hb,QG];by_cases hj:j<x.ev.length
   ·cases hjb:zL x.rf j b with
    | false=>rw [Uk]
    | true=>exact (hk (dT (h1 j b hj hb hjb).2.1)).elim
   ·rw [Uj hj];rfl
end
section
variable {x:ExD}
structure DepOne (x:ExD) (k:Nat):Prop where
 w:∀ j,zL x.dt k j=true\/zL x.rm k j=true->isW x j=true
 p:∀ j,zL x.dt k j=true\/zL x.ct k j=true\/zL x.rm k j=true->isR x k=true/\zL x.po k j=true
 u:∀ i j,zL x.rm k i=true->zL x.rm k j=true->i=j
 l:∀ j,zL x.rm k j=true->(evA x j).l=(evA x k).l
end
def twl (s:List Nat) (i:Nat):List Nat:=s.takeWhile fun y => !decide (y=i)
theorem z9 (a:Nat) (s:List Nat) (i:Nat):twl (a::s) i=if a=i then [] else a::twl s i:=by
 unfold twl;rw [Kr];by_cases h:a=i
 ·rw [Gr h,Gq (by simp [h])]
 ·rw [Gq h,Gr (by simp [h])]
theorem zdR:∀ {s:List Nat} {i j:Nat},j∈twl s i->j∈s/\j≠i
 | [],i,j,h=>by cases h
 | a::s,i,j,h=>by
  rw [z9] at h;by_cases ha:a=i
  ·rw [Gr ha] at h;cases h
  ·rw [Gq ha] at h;rcases UE.1 h with rfl | h
   ·exact⟨KC,ha⟩
   ·exact⟨Ka _ (zdR h).1,(zdR h).2⟩
theorem zg8:∀ {s:List Nat} {i j k:Nat},j∈twl s i->k∈twl s j->k∈twl s i
 | [],i,j,k,h,_=>by cases h
 | a::s,i,j,k,h1,h2=>by
  rw [z9] at h1 h2 ⊢;by_cases ha:a=i
  ·rw [Gr ha] at h1;cases h1
  ·rw [Gq ha] at h1 ⊢;by_cases hb:a=j
   ·rw [Gr hb] at h2;cases h2
   ·rw [Gq hb] at h2;rcases UE.1 h2 with rfl | h2
    ·exact KC
    ·rcases UE.1 h1 with h1 | h1
     ·exact (hb h1.symm).elim
     ·exact Ka _ (zg8 h1 h2)
theorem zgh:∀ (l:List Nat) (f:Nat->Nat) (b:Nat),l.Nodup->∀ i j,(zgi l f b i).testBit j=if i∈l then (b.testBit j||decide (j∈twl l i)) else (f i).testBit j
 | [],f,b,_,i,j=>by rw [Gq Qy];rfl
 | a::l,f,b,hn,i,j=>by
  have hn2:=QX.1 hn;show (zgi l (upd f a b) (b|||2^a) i).testBit j=_;rw [zgh l _ _ hn2.2,z9];by_cases hia:i=a
  ·subst hia;rw [Gq hn2.1,Gr KC,zE,Gr rfl];simp
  ·rw [Gq (show ¬ a=i from fun e=>hia e.symm)];by_cases hi:i∈l
   ·rw [Gr hi,Gr (Ka _ hi),Ut,zaW,Bool.or_assoc];congr 1;rw [Bool.eq_iff_iff,QJ,dE,dE,dE,UE]
   ·rw [Gq hi,Gq (fun h=>by rcases UE.1 h with h | h;exact hia h;exact hi h),zV _ _ hia]
theorem zgn {key:Nat->Nat} {y:Nat}:∀ {r:List Nat},r.Pairwise (fun a b=>key a<=key b)->(ja key r y).Pairwise (fun a b=>key a<=key b)
 | [],_=>List.pairwise_singleton _ _
 | z::r,h=>by
  have h2:=List.pairwise_cons.1 h;unfold ja
  split
  ·rename_i hlt;refine List.pairwise_cons.2 ⟨fun a ha=>?_,zgn h2.2⟩;rcases (zdF r).1 ha with rfl | ha
   ·omega
   ·exact h2.1 a ha
  ·rename_i hlt;refine List.pairwise_cons.2 ⟨fun a ha=>?_,h⟩;rcases UE.1 ha with rfl | ha
   ·omega
   ·have:=h2.1 a ha;omega
theorem zlk {key:Nat->Nat}:∀ (l acc:List Nat),acc.Pairwise (fun a b=>key a<=key b)->(l.foldl (fun acc x=>ja key acc x) acc).Pairwise (fun a b=>key a<=key b)
 | [],_,h=>h
 | y::l,acc,h=>zlk l _ (zgn h)
theorem zh0 (key:Nat->Nat) (l:List Nat):(zb2 key l).Pairwise (fun a b=>key a<=key b):=zlk l [] .nil
theorem zmk {key:Nat->Nat} {l:List Nat} {a:Nat}:a∈zb2 key l↔a∈l:=by
 have:a∈(zb2 key l).reverse↔a∈l:=zhf
 rwa [List.mem_reverse] at this
theorem ze0 {key:Nat->Nat}:∀ {s:List Nat},s.Pairwise (fun a b=>key a<=key b)->s.Nodup->(∀ a b,a∈s->b∈s->a≠b->key a≠key b)->s.Pairwise (fun a b=>key a<key b)
 | [],_,_,_ => .nil
 | a::s,h,hn,hi=>by
  have h2:=List.pairwise_cons.1 h;have hn2:=QX.1 hn;refine List.pairwise_cons.2 ⟨fun b hb=>?_,ze0 h2.2 hn2.2 fun c d hc hd=>hi c d (Ka _ hc) (Ka _ hd)⟩;have h3:=h2.1 b hb;have h4:=hi a b KC (Ka _ hb) (fun e=>hn2.1 (by rw [e];exact hb));omega
theorem zl0 {f g:Nat->Bool}:∀ {n:Nat},(∀ i,i<n->f i=true->g i=true->False)->zeo f n+zeo g n=zeo (fun i=>f i||g i) n
 | 0,_=>rfl
 | n+1,h=>by
  have ih:=zl0 (f:=f) (g:=g) (n:=n) fun i hi=>h i (by omega);have:=h n (QD _);rw [zce,zce,zce,<- ih]
  cases hf:f n <;> cases hg:g n <;> simp [hf,hg] at this ⊢ <;> omega
theorem zoI {a:Nat}:∀ {n:Nat},a<n->zeo (fun b=>decide (b=a)) n=1
 | 0,h=>Gs h (Ud _)
 | n+1,h=>by
  rw [zce];by_cases e:n=a
  ·subst e;rw [Gr (Uu rfl),zoH fun k hk=>Uj (by omega)]
  ·rw [Gq (by simp [e]),zoI (by omega)]
theorem zjY {f g:Nat->Bool}:∀ {n:Nat},(∀ i,i<n->f i=true->g i=true)->zeo f n<=zeo g n
 | 0,_=>UY _
 | n+1,h=>by
  have ih:=zjY (f:=f) (g:=g) (n:=n) fun i hi=>h i (by omega);have:=h n (QD _);rw [zce,zce]
  cases hf:f n <;> cases hg:g n <;> simp [hf,hg] at this ⊢ <;> omega
theorem zkZ {f g:Nat->Bool} {n j:Nat} (h:∀ i,i<n->f i=true->g i=true) (hj:j<n) (h1:f j=false) (h2:g j=true):zeo f n<zeo g n:=by
 have e:=zl0 (f:=f) (g:=fun b=>decide (b=j)) (n:=n) fun i hi hf hd=>by
  have:i=j:=dT hd;rw [this,h1] at hf;cases hf
 rw [zoI hj] at e;have:=zjY (f:=fun i=>f i||decide (i=j)) (g:=g) (n:=n) fun i hi hor=>by
  rw [QJ,dE] at hor;rcases hor with h3 | h3
  ·exact h i hi h3
  ·rw [h3];exact h2
 omega
theorem zjC (s:Nat):zby s=zeo (fun j=>s.testBit j) 64:=rfl
section
variable {x:ExD}
abbrev sG (x:ExD) (l:Nat):List Nat:=zb2 (zbz x) (zW x l)
theorem znE (l:Nat):(sG x l).Nodup:=by
 have:=zkz (x:=x) l;exact (List.reverse_perm _).nodup_iff.1 this
theorem znN (l:Nat):zP x l=(sG x l).reverse:=rfl
theorem zbM {l a:Nat}:a∈zW x l↔a<x.ev.length/\isW x a=true/\(evA x a).l.toNat=l:=by
 unfold zW isW;rw [QV,Uq,bAT,dE,dE]
def znL (x:ExD):Nat->Nat->RelD×(Nat->UInt8)->RelD×(Nat->UInt8)
 | 0,_,p=>p
 | m+1,l,p=>znL x m (l+1) (jX (zP x l) p.1,upd p.2 l (za9 x.ev (zP x l)))
theorem zjW:∀ (m l:Nat) (p q:RelD×(Nat->UInt8)),zgW x m l p=some q↔(∀ k,l<=k->k<l+m->(zP x k).headD 48=k)/\q=znL x m l p
 | 0,l,p,q=>⟨fun h=>⟨fun k h1 h2=>by omega,(Uh h).symm⟩,fun h=>by rw [h.2];rfl⟩
 | m+1,l,p,q=>by
  unfold zgW;by_cases hd:(zP x l).headD 48=l
  ·rw [Gr hd,zjW m (l+1)];refine⟨fun h=>⟨fun k h1 h2=>?_,h.2⟩,fun h=>⟨fun k h1 h2=>h.1 k (by omega) (by omega),h.2⟩⟩;by_cases hk:k=l
   ·rw [hk];exact hd
   ·exact h.1 k (by omega) (by omega)
  ·rw [Gq hd];exact⟨fun h=>(by cases h),fun h=>(hd (h.1 l (UY _) (by omega))).elim⟩
end
def fct:Nat->Nat
 | 0=>1
 | n+1=>(n+1)*fct n
theorem zde:∀ n,1<=fct n
 | 0=>UY _
 | n+1=>Nat.mul_pos (Nat.succ_pos n) (zde n)
theorem zeh {a b:Nat} (h:a<=b):fct a<=fct b:=by
 induction b with
 | zero=>rw [Nat.le_zero.1 h];exact UY _
 | succ b ih =>
  rcases Nat.lt_or_ge b a with h1 | h1
  ·rw [show a=b+1 by omega];exact UY _
  ·refine UO (ih h1) ?_;show fct b<=(b+1)*fct b;exact Nat.le_mul_of_pos_left _ (Nat.succ_pos b)
theorem zdf (s:Nat):(els s).Nodup:=by
 unfold els;exact List.Pairwise.filter _ List.nodup_range
theorem zei (before:Nat->Nat):∀ (n left:Nat) (l x:List Nat),left<2^64->x∈j6 before n left l->∃ s,x=l++s/\s.Perm (els left)/\∀ a t,s=a::t->before a&&&left=0
 | 0,left,l,x,hl,h=>by
  unfold j6 at h
  split at h
  ·rename_i h0;rw [KD] at h;exact⟨[],by rw [h,QM],by rw [h0,zaE],fun a t e=>by cases e⟩
  ·cases h
 | n+1,left,l,x,hl,h=>by
  unfold j6 at h
  split at h
  ·rename_i h0;rw [KD] at h;exact⟨[],by rw [h,QM],by rw [h0,zaE],fun a t e=>by cases e⟩
  ·obtain⟨a,ha,h⟩:=List.mem_flatMap.1 h
   split at h
   ·rename_i hb;obtain⟨s,hs,hp,_⟩:=zei before n _ _ x (qW hl) h;rw [zcT hl ha] at hp;refine⟨a::s,by rw [hs,KS];rfl,?_,fun b t e=>by cases e;exact hb⟩;refine (List.Perm.cons a hp).trans ?_;have hn:=zdf left;generalize els left=L at ha hn;clear hp hs h hl
    induction L with
    | nil=>cases ha
    | cons y r ih =>
     have hn2:=QX.1 hn;rcases UE.1 ha with e | e
     ·subst e;rw [Qq,Gq (by simp),List.filter_eq_self.2 fun z hz=>by
       have:z≠a:=fun e=>hn2.1 (by rw [<- e];exact hz);simp [this]]
     ·have hya:y≠a:=fun e2=>hn2.1 (by rw [e2];exact e);rw [Qq,Gr (by simp [hya])];exact (List.Perm.swap y a _).trans (List.Perm.cons y (ih e hn2.2))
   ·cases h
theorem zlP {α β:Type} {f:α->List β} {b:Nat}:∀ {l:List α},(∀ a∈l,(f a).length<=b)->(l.flatMap f).length<=l.length*b
 | [],_=>by simp
 | a::l,h=>by
  rw [KV,lap,Qv,US];have:=h a KC;have:=zlP (l:=l) fun x hx=>h x (Ka _ hx);omega
theorem zhH (before:Nat->Nat):∀ (n left:Nat) (l:List Nat),left<2^64->(j6 before n left l).length<=fct (els left).length
 | 0,left,l,hl=>by
  unfold j6
  split
  ·exact zde _
  ·exact Gb _
 | n+1,left,l,hl=>by
  unfold j6
  split
  ·exact zde _
  ·have hne:(els left).length=0\/∃ m,(els left).length=m+1:=by
    cases (els left).length with
    | zero=>exact .inl rfl
    | succ m=>exact .inr ⟨m,rfl⟩
   rcases hne with h0 | ⟨m,hm⟩
   ·rw [List.length_eq_zero_iff.1 h0];exact Gb _
   ·rw [hm];refine UO (zlP (b:=fct m) fun a ha=>?_) (by rw [hm];exact UY _)
    split
    ·refine UO (zhH before n _ _ (qW hl)) (zeh ?_);have:=j7 hl ha;rw [za0];omega
    ·exact Gb _
theorem zcd {f:Nat->List (List Nat)}:∀ {l:List Nat},l.Nodup->(∀ a∈l,a≠0->f a=[])->(l.flatMap f).length<=(f 0).length
 | [],_,_=>Gb _
 | a::l,hn,h=>by
  have hn2:=QX.1 hn;rw [KV,lap];by_cases e:a=0
  ·subst e;have:l.flatMap f=[]:=List.flatMap_eq_nil_iff.2 fun x hx=>h x (Ka _ hx) fun e=>hn2.1 (by rw [<- e];exact hx);rw [this];exact UY _
  ·rw [h a KC e];have:=zcd hn2.2 fun x hx=>h x (Ka _ hx);simpa using this
section
variable {n:Nat}
theorem ziA (hn:n<=48):RelOk n (crs n):=⟨rfl,zoE n hn,fun i hi=>zlX n i hi⟩
theorem zjS (hn:n<=48) {a:Nat} (ha:a<n) (h0:a≠0):((zR (crs n)).to a).testBit 0=true:=by
 have h:=zdl (ziA hn) (i:=a) (j:=0) (by omega);unfold zL at h;rw [h,Uu (by omega),UA];show (if 0<n then (if Nat.testBit 1 0 then jE (jO n) 1&&&jO n else 0) else 0).testBit a=true;rw [Gr (by omega),Gr (by decide),Ue];have hb:(jO n).testBit a=true:=by
  rw [zan,zbB (by omega) (by omega) (by omega)];exact Uu (by omega)
 rw [hb,Bool.and_true,za0];have:qa (jO n) 1=qa (jO n) (2^0):=rfl;rw [this,zat (by decide) (by omega),hb,Ks];simp;omega
theorem zf2 (h1:1<=n) (hn:n<=48) {o:List Nat} (h:o∈za5 (crs n)):o.Perm (List.range n)/\∃ t,o=0::t:=by
 unfold za5 at h
 split at h
 ·obtain⟨s,hs,hp,hf⟩:=zei _ _ _ _ _ (zdm n) h;rw [QW] at hs;subst hs;have e:els (jO ((n:Nat):Int))=List.range n:=by rw [zan];exact zdh (by omega)
  have hp:o.Perm (List.range n):=by rw [<- e];exact hp
  refine⟨hp,?_⟩
  cases o with
  | nil=>have:=hp.length_eq;simp at this;omega
  | cons a t =>
   by_cases h0:a=0
   ·exact⟨t,by rw [h0]⟩
   ·have ha:a<n:=Uq.1 (hp.subset KC);have h2:=hf a t rfl;have h3:=zjS hn ha h0;have h4:(jO ((n:Nat):Int)).testBit 0=true:=by
     rw [zan,zbB (by omega) (by omega) (by omega)];exact Uu (by omega)
    have h5:((zR (crs n)).to a&&&jO ((n:Nat):Int)).testBit 0=true:=(by rw [Ue,h3,h4];rfl);have h6:((zR (crs n)).to a&&&jO ((n:Nat):Int))=0:=h2;rw [h6] at h5;simp at h5
 ·cases h
theorem zhu (h1:1<=n) (hn:n<=48):(za5 (crs n)).length<=fct (n-1):=by
 unfold za5
 split
 ·have e:els (jO ((n:Nat):Int))=List.range n:=by rw [zan];exact zdh (by omega)
  have e0:(0:Nat)∈els (jO ((n:Nat):Int)):=by rw [e];exact Uq.2 (by omega)
  show (j6 (zR (crs n)).to 64 (jO ((n:Nat):Int)) []).length<=_;unfold j6
  split
  ·exact zde _
  ·refine UO (zcd (zdf _) fun a ha h0=>?_) ?_
   ·have ha:a<n:=(by rw [e] at ha;exact Uq.1 ha);refine Gq fun h2=>?_;have h3:=zjS hn ha h0;have h4:(jO ((n:Nat):Int)).testBit 0=true:=by
     rw [zan,zbB (by omega) (by omega) (by omega)];exact Uu (by omega)
    have h5:((zR (crs n)).to a&&&jO ((n:Nat):Int)).testBit 0=true:=(by rw [Ue,h3,h4];rfl);rw [h2] at h5;simp at h5
   ·split
    ·refine UO (zhH _ _ _ _ (qW (zdm n))) (zeh ?_);have h6:=j7 (zdm n) e0;rw [e,KY] at h6;rw [za0];omega
    ·exact Gb _
 ·exact Gb _
end
theorem zmK (w:List Nat):(List.range w.length).map (fun k=>w.getD k 0)=w:=by
 apply KT;intro i;rw [KX];by_cases h:i<w.length
 ·rw [Kk h,gE h];show some (w.getD i 0)=_;rw [gDe,gE h];rfl
 ·rw [JM (by simpa using h),JM (by simpa using h)];rfl
theorem zhn {w rk:List Nat} (h1:1<=w.length) (hn:w.length<=48) (h:rk∈zB w):rk.Perm w/\rk.headD 48=w.headD 48:=by
 unfold zB at h;dsimp only at h
 split at h
 ·obtain⟨o,ho,rfl⟩:=UL.1 h;obtain⟨hp,t,ht⟩:=zf2 h1 hn ho;refine⟨?_,?_⟩
  ·have:=hp.map fun k=>w.getD k 0;rw [zmK] at this;exact this
  ·rw [ht];show w.getD 0 0=_
   cases w with
   | nil=>simp at h1
   | cons a r=>rfl
 ·cases h
theorem zfT {w:List Nat} (h1:1<=w.length) (hn:w.length<=48):(zB w).length<=fct (w.length-1)/\(zB w).length<=10000:=by
 unfold zB;dsimp only
 split
 ·rename_i h;rw [QQ];exact⟨zhu h1 hn,h⟩
 ·exact⟨Gb _,Gb _⟩
end Go.Proofs.YtpalcnbhkigagaaGreatDoor
namespace Go.Sei
def za7 (ns:List Nat):Nat:=ns.foldl (· * ·) 1
theorem zkD (ns:List Nat) (n:Nat):za7 (ns++[n])=za7 ns*n:=by
 unfold za7;rw [KW];rfl
def zn3 (init:List UInt8) (Ts:List (List PathD)):List MixD:=(z6 (Ts.map List.length)).filterMap fun ds=>zim init (zaL Ts ds)
theorem zfX:∀ (Ts:List (List PathD)) (ds:List Nat) (T:List PathD) (d:Nat),Ts.length=ds.length->zaL (Ts++[T]) (ds++[d])=zaL Ts ds++(match T[d]? with | some P=>[P] | none=>[])
 | [],[],T,d,_=>by
  show (match T[d]? with | some P=>[P] | none=>[])++[]=_;rw [QM];rfl
 | [],_::_,_,_,h=>by simp at h
 | _::_,[],_,_,h=>by simp at h
 | A::Ts,e::ds,T,d,h=>by
  show (match A[e]? with | some P=>[P] | none=>[])++zaL (Ts++[T]) (ds++[d])=((match A[e]? with | some P=>[P] | none=>[])++zaL Ts ds)++_;rw [zfX Ts ds T d (by simpa using h),KS]
theorem zkE (ns:List Nat) (n:Nat):zT (ns++[n])=zT ns*n:=by
 rw [zb8];show _*(n*1)=_;rw [UZ]
theorem zeN:∀ (ns:List Nat) (a:Nat),ns.foldl (· * ·) a=a*zT ns
 | [],a=>(UZ a).symm
 | n::ns,a=>by
  show ns.foldl (· * ·) (a*n)=a*(n*zT ns);rw [zeN ns,UG]
theorem zeF:∀ ns:List Nat,zT ns.reverse=za7 ns:=fun ns=>by
 have h:∀ l:List Nat,zT l.reverse=zT l:=fun l=>by
  induction l with
  | nil=>rfl
  | cons n l ih =>
   rw [KZ,zkE,ih];exact UP _ _
 rw [h];unfold za7;rw [zeN,Ga]
end Go.Sei
namespace Go.Proofs.YtpalcnbhkigagaaGreatDoor
open Go.Vc Go.RowKit Go.Sei
structure MixX where
 m:MixD
 q:OA
 c:Nat
 p1:OA
 c1:Nat
 p2:OA
 c2:Nat
 p3:OA
 c3:Nat
 xs:List zau
 ys:List zau
def zmJ (x:MixX):List Value:=exC x.m.base x.q x.c++[.slice x.p1 x.m.rs.length x.c1,.slice x.p2 x.xs.length x.c2,.slice x.p3 x.ys.length x.c3]
theorem zn5 (x:MixX):(zmJ x).length=336:=by
 unfold zmJ;rw [lap,zy];rfl
theorem zjz (x:MixX):(zmJ x).all Value.oneCell'=true:=by
 unfold zmJ;rw [QL,zak];rfl
def zgR:Enc MixX:=⟨zmJ,336,zn5,by decide,fun a u hu=>Qm.1 (zjz a) u hu⟩
structure NInM (B:Nat) (F:Nat->Prop) (Y:Wd) (x:MixX):Prop where
 e2:x.xs.map (·.1)=x.m.rs.map (·.2)
 e3:x.ys.map (·.1)=x.m.wr
 ev:RowIn evE 60 B F Y x.q x.c x.m.base.ev
 r1:RowIn zu 3 B F Y x.p1 x.c1 (x.m.rs.map (·.1))
 r2:RowIn qV 66 B F Y x.p2 x.c2 x.xs
 n2:∀ y∈x.xs,RowIn zu 3 B F Y y.2.1 y.2.2 y.1
 r3:RowIn qV 66 B F Y x.p3 x.c3 x.ys
 n3:∀ y∈x.ys,RowIn zu 3 B F Y y.2.1 y.2.2 y.1
theorem NInM.same {B:Nat} {F G:Nat->Prop} {Y Z:Wd} {x:MixX} (h:NInM B F Y x) (k:∀ {α:Type} {E:Enc α} {T c:Nat} {q:OA} {l:List α},T≠87->T≠81->T≠4->RowIn E T B F Y q c l->RowIn E T B G Z q c l):NInM B G Z x :=
 ⟨h.e2,h.e3,k (by decide) (by decide) (by decide) h.ev,k (by decide) (by decide) (by decide) h.r1,k (by decide) (by decide) (by decide) h.r2,fun y hy=>k (by decide) (by decide) (by decide) (h.n2 y hy),k (by decide) (by decide) (by decide) h.r3,fun y hy=>k (by decide) (by decide) (by decide) (h.n3 y hy)⟩
theorem NInM.lower {B B':Nat} {F:Nat->Prop} {Y:Wd} {x:MixX} (h:NInM B F Y x) (hB:B'<=B):NInM B' (fun k=>B'<=k) Y x:=by
 have k:∀ {α:Type} {E:Enc α} {T c:Nat} {q:OA} {l:List α},RowIn E T B F Y q c l->RowIn E T B' (fun k=>B'<=k) Y q c l:=fun {α E T c q l} hr=>⟨hr.own.lower hB,fun a ha=>(zo (hr.own.lower hB) ha).1⟩;exact⟨h.e2,h.e3,k h.ev,k h.r1,k h.r2,fun y hy=>k (h.n2 y hy),k h.r3,fun y hy=>k (h.n3 y hy)⟩
theorem zhw (B:Nat):zhR 87 81 (NInM B):=by
 rintro F G Y Z x h hs hg;refine h.same fun {α E T c q l} t1 t2 _ hr=>⟨hr.own.same fun a ha=>?_,fun a ha=>hg _ (hr.inF a ha)⟩;obtain⟨_,_,cur,hc⟩:=zo hr.own ha;exact hs _ cur _ (hr.inF a ha) hc t1 t2
abbrev TpR:=List zc0×OA×Nat
def tpE:Enc TpR where
 sz:=1
 enc x:=[.slice x.2.1 x.1.length x.2.2]
 len x:=rfl
 one x v hv:=by
  simp at hv;subst hv;rfl
 pos:=by decide
structure MxS (B:Nat) (Z:Wd) (L bP:Nat) (ss:List Nat) (ps:OA) (cs:Nat) (ts:List TpR) (pT:OA) (cT:Nat):Prop where
 f0:Z.heap[L]?=some (.cells #[At0 bP] 84 (0,0))
 f1:Z.heap[L+1]?=some (.cells #[.slice none 0 0] 81 (0,0))
 f2:Z.heap[L+2]?=some (.cells #[.bool false] 4 (0,0))
 f3:Z.heap[L+3]?=some (.cells #[.slice pT ts.length cT] 118 (0,0))
 own:OwnS zu 3 B Z ps cs ss
 rk:OwnS tpE 78 B Z pT cT ts
 n1:∀ z∈ts,OwnS jG 73 B Z z.2.1 z.2.2 z.1
 n2:∀ z∈ts,∀ x∈z.1,PthO B Z x
theorem PthO.same {B:Nat} {Y Z:Wd} {x:zc0} (h:PthO B Y x) (k:∀ {α:Type} {E:Enc α} {T c:Nat} {q:OA} {l:List α},T=60\/T=184->OwnS E T B Y q c l->OwnS E T B Z q c l):PthO B Z x :=
 ⟨k (.inl rfl) h.1,k (.inr rfl) h.2.1,k (.inr rfl) h.2.2.1,k (.inr rfl) h.2.2.2⟩
theorem MxS.below {B:Nat} {Z Y:Wd} {L bP:Nat} {ss:List Nat} {ps:OA} {cs:Nat} {ts:List TpR} {pT:OA} {cT:Nat} (h:MxS B Z L bP ss ps cs ts pT cT) (hb:Bw Z Y):MxS B Y L bP ss ps cs ts pT cT :=
 ⟨zb hb h.f0,zb hb h.f1,zb hb h.f2,zb hb h.f3,h.own.below hb,h.rk.below hb,fun z hz=>(h.n1 z hz).below hb,fun z hz x hx=>(h.n2 z hz x hx).same fun {α E T c q l} _ ho=>ho.below hb⟩
theorem MxS.size {B:Nat} {Z Y:Wd} {L bP n:Nat} {ss:List Nat} {ps ps':OA} {cs cs':Nat} {ts:List TpR} {pT:OA} {cT:Nat} (h:MxS B Z L bP ss ps cs ts pT cT) (ho:OwnS zu 3 B Y ps' cs' (ss++[n])) (g:Z.grownBy Y (ps.map Addr.block)):MxS B Y L bP (ss++[n]) ps' cs' ts pT cT :=
 ⟨qg h.f0 h.own (by decide) g,qg h.f1 h.own (by decide) g,qg h.f2 h.own (by decide) g,qg h.f3 h.own (by decide) g,ho,j3 h.rk h.own (by decide) g,fun z hz=>j3 (h.n1 z hz) h.own (by decide) g,fun z hz x hx=>(h.n2 z hz x hx).same fun {α E T c q l} ht hoo=>j3 hoo h.own (by rcases ht with rfl | rfl <;> decide) g⟩
theorem zsK {B c:Nat} {V1:Wd} {p:OA} {l:List TpR} {y:TpR} {a:Addr} (ho:OwnS tpE 78 B V1 p c l) (ha:zx V1 a ([y].flatMap tpE.enc)) (hB:B<=V1.heap.size) (hl:l.length<=100000) {K:Value->Wd->Prop}
  (h:∀ p' c' w',OwnS tpE 78 B w' p' c' (l++[y])->V1.grownBy w' (p.map Addr.block)->(∀ a,p'=some a->p=some a\/a.block=V1.heap.size)->K (.slice p' (l++[y]).length c') w') :
  SatR ((Builtin.append_ #[118,118] 118 #[.slice p l.length c,.slice (some a) 1 1]).run PG V1) K :=
 jA (E:=tpE) (T:=78) (B:=B) (l:=l) (news:=[y]) (cap:=c) (m:=1) Tryz.underlying118 k78 rfl rfl rfl ho rfl ha hB (by omega) (by show (l.length+1)*24<=_;omega) fun p' c' w' a1 a2 _ a4=>h p' c' w' a1 (by rw [j4] at a2;exact a2) a4
theorem zsM {B c:Nat} {V1:Wd} {p:OA} {l:List zc0} {y:zc0} {a:Addr} (ho:OwnS jG 73 B V1 p c l) (ha:zx V1 a ([y].flatMap jG.enc)) (hB:B<=V1.heap.size) (hl:l.length<=100000) {K:Value->Wd->Prop}
  (h:∀ p' c' w',OwnS jG 73 B w' p' c' (l++[y])->V1.grownBy w' (p.map Addr.block)->(∀ a,p'=some a->p=some a\/a.block=V1.heap.size)->K (.slice p' (l++[y]).length c') w') :
  SatR ((Builtin.append_ #[78,78] 78 #[.slice p l.length c,.slice (some a) 1 1]).run PG V1) K :=
 jA (E:=jG) (T:=73) (B:=B) (l:=l) (news:=[y]) (cap:=c) (m:=1) Tryz.underlying78 k73 rfl rfl rfl ho rfl ha hB (by omega) (by show (l.length+1)*104<=_;omega) fun p' c' w' a1 a2 _ a4=>h p' c' w' a1 (by rw [j4] at a2;exact a2) a4
structure ThrQ (V:List UInt8) (l:List InsD):Prop where
 l12:l.length<=12
 ex:∀ x∈l,zsQ x
 ok:qr l 6=true
 m:(jv l (ded V)).length<=4096
end Go.Proofs.YtpalcnbhkigagaaGreatDoor
namespace Go.Proofs.YtpalcnbhkigagaaGreatDoor
open Go.Vc Go.RowKit Go.Sei
open Go.Sort (swp)
abbrev RB (w:Wd) (g:Nat) (sp:List Value) (d:Array UInt8):Prop:=RowS zM 5 w g sp d.toList
def lt8 (x y:UInt8):Bool:=decide ((x.toNat:Int)<(y.toNat:Int))
theorem znv:Go.Sort.SWO lt8 where
 irrefl:=fun x=>Uj (by omega)
 trans:=fun x y z h1 h2=>by
  have h1:=dT h1;have h2:=dT h2;exact Uu (by omega)
 ntrans:=fun x y z h1 h2=>by
  have h1:=dF h1;have h2:=dF h2;exact Uj (by omega)
section
variable {w:Wd} {g i j:Nat} {sp:List Value} {d:Array UInt8}
theorem zp (h:RB w g sp d) (hi:i<d.size):w.cell? ⟨g,0+i*1,none⟩=some (u8 d[i]!):=by
 have h1:i<d.toList.length:=by simpa using hi
 have:=zcY h h1;rw [this,getElem!_pos d i hi];simp
theorem zF {P:Program} {iT:TI} (hT:TIok P 5 iT) (hs:iT.size=1) (hr:RB w g sp d) (hi:i<d.size) (x:UInt8) {K:Wd->Prop}
  (k:∀ w',RB w' g sp (d.setIfInBounds i x)->w.grownBy w' (some g)->K w') :
  SatR ((storeVar 5 ⟨g,0+i*1,none⟩ (.agg (zM.enc x).toArray)).run P w) fun _ w'=>K w':=by
 refine zhb hT hs hr (i:=i) (by simpa using hi) x fun Z hRZ gZ sZ=>k Z ?_ gZ;show RowS zM 5 Z g sp (d.setIfInBounds i x).toList;rw [Array.toList_setIfInBounds];exact hRZ
theorem zt (w:Wd) (g:Nat):w.grownBy w.drew (some g):=⟨rfl,rfl,rfl,UY _,fun _ _ _=>rfl⟩
end
section
variable {w:Wd} {g cap L a b:Nat} {sp:List Value} {d:Array UInt8}
theorem zrc (hr:RB w g sp d) (hL:d.size=L) (hab:a<=b) (hb:b<=L) (hl:L<=1000000) :
  Calls PG 137 #[.slice (some ⟨g,0,none⟩) L cap,i64 a,i64 b] w fun e w'=>e = .returned (.tuple #[])/\RB w' g sp (Go.Sort.insertionSort lt8 d a b)/\w.grownBy w' (some g):=by
 refine zI 49 [.slice (some ⟨g,0,none⟩) L cap,i64 a,i64 b] Tryz.func137 ?_;obtain⟨R,hR⟩:=nm (Go.Sort.insertionSort lt8 d a b);rw [<- hR];refine⟨((a+1:Nat):Int),(ze (by first | omega | (dsimp only;omega))).trans (by first | omega | (dsimp only;omega)),Nat×Array UInt8,fun s=>⟨[(0,.slice (some ⟨g,0,none⟩) L cap),(1,i64 a),(2,i64 b),(6,i64 (s.1:Nat))],[]⟩,fun s X=>a+1<=s.1/\s.2.size=L/\Go.Sort.insOuter lt8 a b s.1 s.2=R/\RB X g sp s.2/\w.grownBy X (some g),fun s=>b-s.1,(a+1,d),(cvE rfl rfl),⟨UY _,hL,by rw [hR];rfl,hr,z8 _ _⟩,?_⟩;rintro⟨i,d1⟩ X ⟨hi,hs1,hR1,hrX,gX⟩;dsimp only at hi hs1 hR1 hrX;rw [Go.Sort.insOuter] at hR1;refine biE (fun hc=>?_) fun hc=>?_
 ·have hc:(i:Int)<(b:Int):=dT hc;have hib:i<b:=by omega
  rw [Gr hib] at hR1;refine⟨Nat×Array UInt8,fun s=>⟨[(0,.slice (some ⟨g,0,none⟩) L cap),(1,i64 a),(2,i64 b),(6,i64 (i:Nat)),(7,i64 (s.1:Nat))],[]⟩,fun s Y=>a<=s.1/\s.1<=i/\s.2.size=L/\Go.Sort.insInner lt8 a s.1 s.2=Go.Sort.insInner lt8 a i d1/\RB Y g sp s.2/\w.grownBy Y (some g),fun s=>s.1,(i,d1),(cvE rfl rfl),⟨by show a<=i;omega,UY _,hs1,rfl,hrX,gX⟩,?_⟩;rintro⟨j,d2⟩ Y ⟨hj,hji,hs2,hR2,hrY,gY⟩;dsimp only at hj hji hs2 hR2 hrY;have hout:∀ Z d3,Go.Sort.insInner lt8 a i d1=d3->d3.size=L->RB Z g sp d3->w.grownBy Z (some g)->a+1<=i+1/\d3.size=L/\Go.Sort.insOuter lt8 a b (i+1) d3=R/\RB Z g sp d3/\w.grownBy Z (some g):=fun Z d3 e z q gz=>⟨by omega,z,by rw [<- e];exact hR1,q,gz⟩;have gYd:=zd gY (zt Y g);have qd:RB Y.drew g sp d2:=hrY;refine DrawE.ord [] [0,1,2,3,4,5,6,7,8,9,10,11,12,13,14] (by kernel_rfl) (biE (fun h2=>?_) fun h2=>?_)
  ·have h2:(a:Int)<(j:Int):=dT h2;obtain⟨k,rfl⟩:∃ k,j=k+1:=⟨j-1,by omega⟩;have hk1:k+1<d2.size:=by omega
   have hk:k<d2.size:=by omega
   have e2:Go.Sort.insInner lt8 a (k+1) d2=if (decide (k+1 > a)&&lt8 d2[k+1]! d2[k]!)=true then Go.Sort.insInner lt8 a k (swp d2 (k+1) k) else d2:=rfl
   have e3:decide (k+1 > a)=true:=Uu (by omega);rw [e2,e3,UA] at hR2;refine⟨k+1,rfl,by omega,?_⟩;refine⟨_,zp qd hk1,((k:Nat):Int),(ze (by first | omega | (dsimp only;omega))).trans (by first | omega | (dsimp only;omega)),k,rfl,by omega,?_⟩;refine⟨_,zp qd hk,cmo jz ?_⟩;rintro e _ ⟨rfl,rfl⟩;refine⟨Gd _ _,biE (fun h3=>?_) fun h3=>?_⟩
   ·have h3:lt8 d2[k+1]! d2[k]! = true:=h3;rw [Gr h3] at hR2;have qe:RB Y.drew.drew g sp d2:=qd;refine DrawE.ord [15,17] [0,1,2,3,4,5,6,7,8,9,10,11,12,13,14,15,16,17] (by kernel_rfl) ⟨((k:Nat):Int),(ze (by first | omega | (dsimp only;omega))).trans (by first | omega | (dsimp only;omega)),((k:Nat):Int),(ze (by first | omega | (dsimp only;omega))).trans (by first | omega | (dsimp only;omega)),k,rfl,by omega,?_⟩;refine⟨_,zp qe hk,k+1,rfl,by omega,?_⟩;refine⟨_,zp qe hk1,k+1,rfl,by omega,?_⟩;refine zF k5 rfl qe hk1 d2[k]! fun V1 q1 g1=>⟨k,rfl,by omega,?_⟩;refine zF k5 rfl q1 (by rw [Array.size_setIfInBounds];exact hk) d2[k+1]! fun V2 q2 g2=>?_;have q2:RB V2 g sp (swp d2 (k+1) (k)):=q2;have z2:(swp d2 (k+1) (k)).size=d2.size:=Go.Sort.size_swp d2 (k+1) (k);exact⟨((k:Nat):Int),(ze (by first | omega | (dsimp only;omega))).trans (by first | omega | (dsimp only;omega)),(k,swp d2 (k+1) k),(cvE rfl rfl),⟨by show a<=k;omega,by show k<=i;omega,by rw [z2];exact hs2,hR2,q2,zd gYd (zd (zt _ g) (zd g1 g2))⟩,QD k⟩
   ·have h3:lt8 d2[k+1]! d2[k]! = false:=h3;rw [Gq (by rw [h3];exact Kx)] at hR2;exact⟨((i+1:Nat):Int),(ze (by first | omega | (dsimp only;omega))).trans (by first | omega | (dsimp only;omega)),(i+1,d2),(cvE rfl rfl),hout _ _ hR2.symm hs2 qd gYd,zdc (by omega)⟩
  ·have h2:¬ (a:Int)<(j:Int):=dF h2;have hja:j=a:=by omega
   subst hja;have e2:Go.Sort.insInner lt8 j j d2=d2:=by
    cases j with
    | zero=>rfl
    | succ k =>
     show (if (decide (k+1 > k+1)&&lt8 d2[k+1]! d2[k]!)=true then _ else d2)=d2;rw [Uj (by omega),Ul];rfl
   rw [e2] at hR2;exact Gi (fun h=>by cases h) (fun _=>⟨((i+1:Nat):Int),(ze (by first | omega | (dsimp only;omega))).trans (by first | omega | (dsimp only;omega)),(i+1,d2),(cvE rfl rfl),hout _ _ hR2.symm hs2 qd gYd,zdc (by omega)⟩)
 ·have hc:¬ (i:Int)<(b:Int):=dF hc;rw [Gq (by omega)] at hR1;exact⟨rfl,hR1▸hrX,gX⟩
end
def zbp (hi first root:Nat) (d:Array UInt8):Nat:=if (decide (2*root+1+1<hi)&&lt8 d[first+(2*root+1)]! d[first+(2*root+1)+1]!)=true then 2*root+2 else 2*root+1
theorem zfL {hi first root:Nat} {d:Array UInt8} (h:¬ 2*root+1<hi):Go.Sort.siftDown lt8 hi first root d=d:=by
 rw [Go.Sort.siftDown,dif_pos (by omega)]
theorem zlm {hi first root:Nat} {d:Array UInt8} (h:2*root+1<hi):Go.Sort.siftDown lt8 hi first root d =
  if (!lt8 d[first+root]! d[first+zbp hi first root d]!)=true then d else Go.Sort.siftDown lt8 hi first (zbp hi first root d) (swp d (first+root) (first+zbp hi first root d)):=by
 rw [Go.Sort.siftDown,dif_neg (by omega)];unfold zbp;by_cases h2:(decide (2*root+1+1<hi)&&lt8 d[first+(2*root+1)]! d[first+(2*root+1)+1]!)=true
 ·have h3:2*root+2<hi:=by
   rw [bAT,dE] at h2;omega
  rw [Gr h2,Gr h2,dif_pos h3]
 ·rw [Gq h2,Gq h2]
theorem zhh {hi first root:Nat} {d:Array UInt8} (h:2*root+1<hi):zbp hi first root d<hi/\root<zbp hi first root d:=by
 unfold zbp
 split
 ·rename_i h2;rw [bAT,dE] at h2;omega
 ·omega
section
variable {w:Wd} {g cap L a b:Nat} {sp:List Value} {d:Array UInt8}
theorem znA {lo hi first:Nat} (hr:RB w g sp d) (hL:d.size=L) (hb:first+hi<=L) (hl:L<=1000000) (hlo:lo<=1000000) :
  Calls PG 155 #[.slice (some ⟨g,0,none⟩) L cap,i64 lo,i64 hi,i64 first] w fun e w'=>e = .returned (.tuple #[])/\RB w' g sp (Go.Sort.siftDown lt8 hi first lo d)/\w.grownBy w' (some g):=by
 refine zI 76 [.slice (some ⟨g,0,none⟩) L cap,i64 lo,i64 hi,i64 first] Tryz.func155 ?_;obtain⟨R,hR⟩:=nm (Go.Sort.siftDown lt8 hi first lo d);rw [<- hR];refine⟨Nat×Array UInt8,fun s=>⟨[(0,.slice (some ⟨g,0,none⟩) L cap),(1,i64 lo),(2,i64 hi),(3,i64 first),(8,i64 (s.1:Nat))],[]⟩,fun s X=>s.1<=1000000/\s.2.size=L/\Go.Sort.siftDown lt8 hi first s.1 s.2=R/\RB X g sp s.2/\w.grownBy X (some g),fun s=>hi-s.1,(lo,d),(cvE rfl rfl),⟨hlo,hL,hR.symm,hr,z8 _ _⟩,?_⟩;rintro⟨root,d1⟩ X ⟨hro,hs1,hR1,hrX,gX⟩;dsimp only at hro hs1 hR1 hrX;refine⟨((2*root:Nat):Int),(ze (by first | omega | (dsimp only;omega))).trans (by first | omega | (dsimp only;omega)),((2*root+1:Nat):Int),(ze (by first | omega | (dsimp only;omega))).trans (by first | omega | (dsimp only;omega)),biE (fun hc=>?_) fun hc=>?_⟩
 ·have hc:(hi:Int)<=((2*root+1:Nat):Int):=dT hc;rw [zfL (by omega)] at hR1;exact⟨rfl,hR1▸hrX,gX⟩
 ·have hc:¬ (hi:Int)<=((2*root+1:Nat):Int):=dF hc;have hch:2*root+1<hi:=by omega
  rw [zlm hch] at hR1;obtain⟨hclt,hcr⟩:=zhh (d:=d1) (first:=first) hch;obtain⟨c,hcd⟩:=nm (zbp hi first root d1);rw [<- hcd] at hR1 hclt hcr;have qd:RB X.drew g sp d1:=hrX;have gXd:=zd gX (zt X g);refine DrawE.ord [] [0,1,2,3,4,5,6,7,8,9,10,11,12,13,14,15,16,17,18,19] (by kernel_rfl) ⟨((2*root+1+1:Nat):Int),(ze (by first | omega | (dsimp only;omega))).trans (by first | omega | (dsimp only;omega)),biE (fun h2=>?_) fun h2=>?_⟩
  ·have h2:((2*root+1+1:Nat):Int)<(hi:Int):=dT h2;have h2:2*root+1+1<hi:=by omega
   have hx1:first+(2*root+1)<d1.size:=by omega
   have hx2:first+(2*root+1)+1<d1.size:=by omega
   refine⟨((first+(2*root+1):Nat):Int),(ze (by first | omega | (dsimp only;omega))).trans (by first | omega | (dsimp only;omega)),first+(2*root+1),rfl,by omega,?_⟩;refine⟨_,zp qd hx1,((first+(2*root+1):Nat):Int),(ze (by first | omega | (dsimp only;omega))).trans (by first | omega | (dsimp only;omega)),((first+(2*root+1)+1:Nat):Int),(ze (by first | omega | (dsimp only;omega))).trans (by first | omega | (dsimp only;omega)),first+(2*root+1)+1,rfl,by omega,?_⟩;refine⟨_,zp qd hx2,cmo jz ?_⟩;rintro e _ ⟨rfl,rfl⟩;refine⟨Gd _ _,biE (fun h3=>?_) fun h3=>?_⟩
   ·have h3:lt8 d1[first+(2*root+1)]! d1[first+(2*root+1)+1]! = true:=h3;have hce:c=2*root+2:=(by rw [hcd];unfold zbp;rw [h3,Uu h2];rfl);subst hce;clear hcd;refine⟨((2*root+2:Nat):Int),(ze (by first | omega | (dsimp only;omega))).trans (by first | omega | (dsimp only;omega)),?_⟩;have hi1:first+root<d1.size:=by omega
    have hi2:first+(2*root+2)<d1.size:=by omega
    have q5:RB X.drew.drew g sp d1:=hrX;refine DrawE.ord [] [0,1,2,3,4,5,6,7,8,9,10,11,12,13] (by kernel_rfl) ⟨((first+root:Nat):Int),(ze (by first | omega | (dsimp only;omega))).trans (by first | omega | (dsimp only;omega)),first+root,rfl,by omega,?_⟩;refine⟨_,zp q5 hi1,((first+(2*root+2):Nat):Int),(ze (by first | omega | (dsimp only;omega))).trans (by first | omega | (dsimp only;omega)),first+(2*root+2),rfl,by omega,?_⟩;refine⟨_,zp q5 hi2,cmo jz ?_⟩;rintro e _ ⟨rfl,rfl⟩;refine⟨Gd _ _,biE (fun h4=>?_) fun h4=>?_⟩
    ·have h4:(!lt8 d1[first+root]! d1[first+(2*root+2)]!)=true:=h4;rw [Gr h4] at hR1;exact⟨rfl,hR1▸hrX,zd gXd (zt _ g)⟩
    ·have h4:(!lt8 d1[first+root]! d1[first+(2*root+2)]!)=false:=h4;rw [Gq (by rw [h4];exact Kx)] at hR1;have q6:RB X.drew.drew.drew g sp d1:=hrX;refine DrawE.ord [21,23] [0,1,2,3,4,5,6,7,8,9,10,11,12,13,14,15,16,17,18,19,20,21,22,23] (by kernel_rfl) ⟨((first+root:Nat):Int),(ze (by first | omega | (dsimp only;omega))).trans (by first | omega | (dsimp only;omega)),((first+(2*root+2):Nat):Int),(ze (by first | omega | (dsimp only;omega))).trans (by first | omega | (dsimp only;omega)),((first+(2*root+2):Nat):Int),(ze (by first | omega | (dsimp only;omega))).trans (by first | omega | (dsimp only;omega)),first+(2*root+2),rfl,by omega,?_⟩;refine⟨_,zp q6 hi2,((first+root:Nat):Int),(ze (by first | omega | (dsimp only;omega))).trans (by first | omega | (dsimp only;omega)),first+root,rfl,by omega,?_⟩;refine⟨_,zp q6 hi1,first+root,rfl,by omega,?_⟩;refine zF k5 rfl q6 hi1 d1[first+(2*root+2)]! fun V1 q1 g1=>⟨first+(2*root+2),rfl,by omega,?_⟩;refine zF k5 rfl q1 (by rw [Array.size_setIfInBounds];exact hi2) d1[first+root]! fun V2 q2 g2=>?_;have q2:RB V2 g sp (swp d1 (first+root) (first+(2*root+2))):=q2;have z2:(swp d1 (first+root) (first+(2*root+2))).size=d1.size:=Go.Sort.size_swp d1 (first+root) (first+(2*root+2));exact⟨(2*root+2,swp d1 (first+root) (first+(2*root+2))),(cvE rfl rfl),⟨by show 2*root+2<=1000000;omega,by rw [z2];exact hs1,hR1,q2,zd gXd (zd (zt _ g) (zd (zt _ g) (zd g1 g2)))⟩,by show hi-(2*root+2)<hi-root;omega⟩
   ·have h3:lt8 d1[first+(2*root+1)]! d1[first+(2*root+1)+1]! = false:=h3;have hce:c=2*root+1:=(by rw [hcd];unfold zbp;rw [h3,Uk];rfl);subst hce;clear hcd;have hi1:first+root<d1.size:=by omega
    have hi2:first+(2*root+1)<d1.size:=by omega
    have q5:RB X.drew.drew g sp d1:=hrX;refine DrawE.ord [] [0,1,2,3,4,5,6,7,8,9,10,11,12,13] (by kernel_rfl) ⟨((first+root:Nat):Int),(ze (by first | omega | (dsimp only;omega))).trans (by first | omega | (dsimp only;omega)),first+root,rfl,by omega,?_⟩;refine⟨_,zp q5 hi1,((first+(2*root+1):Nat):Int),(ze (by first | omega | (dsimp only;omega))).trans (by first | omega | (dsimp only;omega)),first+(2*root+1),rfl,by omega,?_⟩;refine⟨_,zp q5 hi2,cmo jz ?_⟩;rintro e _ ⟨rfl,rfl⟩;refine⟨Gd _ _,biE (fun h4=>?_) fun h4=>?_⟩
    ·have h4:(!lt8 d1[first+root]! d1[first+(2*root+1)]!)=true:=h4;rw [Gr h4] at hR1;exact⟨rfl,hR1▸hrX,zd gXd (zt _ g)⟩
    ·have h4:(!lt8 d1[first+root]! d1[first+(2*root+1)]!)=false:=h4;rw [Gq (by rw [h4];exact Kx)] at hR1;have q6:RB X.drew.drew.drew g sp d1:=hrX;refine DrawE.ord [21,23] [0,1,2,3,4,5,6,7,8,9,10,11,12,13,14,15,16,17,18,19,20,21,22,23] (by kernel_rfl) ⟨((first+root:Nat):Int),(ze (by first | omega | (dsimp only;omega))).trans (by first | omega | (dsimp only;omega)),((first+(2*root+1):Nat):Int),(ze (by first | omega | (dsimp only;omega))).trans (by first | omega | (dsimp only;omega)),((first+(2*root+1):Nat):Int),(ze (by first | omega | (dsimp only;omega))).trans (by first | omega | (dsimp only;omega)),first+(2*root+1),rfl,by omega,?_⟩;refine⟨_,zp q6 hi2,((first+root:Nat):Int),(ze (by first | omega | (dsimp only;omega))).trans (by first | omega | (dsimp only;omega)),first+root,rfl,by omega,?_⟩;refine⟨_,zp q6 hi1,first+root,rfl,by omega,?_⟩;refine zF k5 rfl q6 hi1 d1[first+(2*root+1)]! fun V1 q1 g1=>⟨first+(2*root+1),rfl,by omega,?_⟩;refine zF k5 rfl q1 (by rw [Array.size_setIfInBounds];exact hi2) d1[first+root]! fun V2 q2 g2=>?_;have q2:RB V2 g sp (swp d1 (first+root) (first+(2*root+1))):=q2;have z2:(swp d1 (first+root) (first+(2*root+1))).size=d1.size:=Go.Sort.size_swp d1 (first+root) (first+(2*root+1));exact⟨(2*root+1,swp d1 (first+root) (first+(2*root+1))),(cvE rfl rfl),⟨by show 2*root+1<=1000000;omega,by rw [z2];exact hs1,hR1,q2,zd gXd (zd (zt _ g) (zd (zt _ g) (zd g1 g2)))⟩,by show hi-(2*root+1)<hi-root;omega⟩
  ·have h2:¬ ((2*root+1+1:Nat):Int)<(hi:Int):=dF h2;refine Gi (fun h=>by cases h) (fun _=>?_);have hce:c=2*root+1:=by rw [hcd];unfold zbp;rw [Uj (by omega),Ul];rfl
   subst hce;clear hcd;have hi1:first+root<d1.size:=by omega
   have hi2:first+(2*root+1)<d1.size:=by omega
   have q5:RB X.drew.drew g sp d1:=hrX;refine DrawE.ord [] [0,1,2,3,4,5,6,7,8,9,10,11,12,13] (by kernel_rfl) ⟨((first+root:Nat):Int),(ze (by first | omega | (dsimp only;omega))).trans (by first | omega | (dsimp only;omega)),first+root,rfl,by omega,?_⟩;refine⟨_,zp q5 hi1,((first+(2*root+1):Nat):Int),(ze (by first | omega | (dsimp only;omega))).trans (by first | omega | (dsimp only;omega)),first+(2*root+1),rfl,by omega,?_⟩;refine⟨_,zp q5 hi2,cmo jz ?_⟩;rintro e _ ⟨rfl,rfl⟩;refine⟨Gd _ _,biE (fun h4=>?_) fun h4=>?_⟩
   ·have h4:(!lt8 d1[first+root]! d1[first+(2*root+1)]!)=true:=h4;rw [Gr h4] at hR1;exact⟨rfl,hR1▸hrX,zd gXd (zt _ g)⟩
   ·have h4:(!lt8 d1[first+root]! d1[first+(2*root+1)]!)=false:=h4;rw [Gq (by rw [h4];exact Kx)] at hR1;have q6:RB X.drew.drew.drew g sp d1:=hrX;refine DrawE.ord [21,23] [0,1,2,3,4,5,6,7,8,9,10,11,12,13,14,15,16,17,18,19,20,21,22,23] (by kernel_rfl) ⟨((first+root:Nat):Int),(ze (by first | omega | (dsimp only;omega))).trans (by first | omega | (dsimp only;omega)),((first+(2*root+1):Nat):Int),(ze (by first | omega | (dsimp only;omega))).trans (by first | omega | (dsimp only;omega)),((first+(2*root+1):Nat):Int),(ze (by first | omega | (dsimp only;omega))).trans (by first | omega | (dsimp only;omega)),first+(2*root+1),rfl,by omega,?_⟩;refine⟨_,zp q6 hi2,((first+root:Nat):Int),(ze (by first | omega | (dsimp only;omega))).trans (by first | omega | (dsimp only;omega)),first+root,rfl,by omega,?_⟩;refine⟨_,zp q6 hi1,first+root,rfl,by omega,?_⟩;refine zF k5 rfl q6 hi1 d1[first+(2*root+1)]! fun V1 q1 g1=>⟨first+(2*root+1),rfl,by omega,?_⟩;refine zF k5 rfl q1 (by rw [Array.size_setIfInBounds];exact hi2) d1[first+root]! fun V2 q2 g2=>?_;have q2:RB V2 g sp (swp d1 (first+root) (first+(2*root+1))):=q2;have z2:(swp d1 (first+root) (first+(2*root+1))).size=d1.size:=Go.Sort.size_swp d1 (first+root) (first+(2*root+1));exact⟨(2*root+1,swp d1 (first+root) (first+(2*root+1))),(cvE rfl rfl),⟨by show 2*root+1<=1000000;omega,by rw [z2];exact hs1,hR1,q2,zd gXd (zd (zt _ g) (zd (zt _ g) (zd g1 g2)))⟩,by show hi-(2*root+1)<hi-root;omega⟩
theorem zez (hi first:Nat):∀ (n root:Nat) (d:Array UInt8),hi-root<=n->(Go.Sort.siftDown lt8 hi first root d).size=d.size
 | 0,root,d,h=>by rw [zfL (by omega)]
 | n+1,root,d,h=>by
  by_cases hc:2*root+1<hi
  ·have:=zhh (d:=d) (first:=first) hc;rw [zlm hc]
   split
   ·rfl
   ·rw [zez hi first n _ _ (by omega)];exact Go.Sort.size_swp ..
  ·rw [zfL hc]
theorem zpM (hr:RB w g sp d) (hL:d.size=L) (hab:a<b) (hb:b<=L) (hl:L<=1000000) :
  Calls PG 138 #[.slice (some ⟨g,0,none⟩) L cap,i64 a,i64 b] w fun e w'=>e = .returned (.tuple #[])/\RB w' g sp (Go.Sort.heapSort lt8 d a b)/\w.grownBy w' (some g):=by
 refine zI 56 [.slice (some ⟨g,0,none⟩) L cap,i64 a,i64 b] Tryz.func138 ?_;obtain⟨R,hR⟩:=nm (Go.Sort.heapSort lt8 d a b);rw [<- hR];refine⟨((b-a:Nat):Int),(ze (by first | omega | (dsimp only;omega))).trans (by first | omega | (dsimp only;omega)),((b-a-1:Nat):Int),(ze (by first | omega | (dsimp only;omega))).trans (by first | omega | (dsimp only;omega)),by decide,(((b-a-1)/2:Nat):Int),(Gl _ (show ((b-a-1:Nat):Int).tdiv 2=(((b-a-1)/2:Nat):Int) from rfl)).trans (ze (by omega)),Nat×Array UInt8,fun s=>⟨[(0,.slice (some ⟨g,0,none⟩) L cap),(1,i64 a),(2,i64 b),(6,i64 a),(7,i64 0),(8,i64 (b-a:Nat)),(9,i64 ((s.1:Int)-1))],[]⟩,fun s X=>s.1<=(b-a-1)/2+1/\s.2.size=L/\Go.Sort.heapPop lt8 a (b-a) (Go.Sort.heapBuild lt8 (b-a) a s.1 s.2)=R/\RB X g sp s.2/\w.grownBy X (some g),fun s=>s.1,((b-a-1)/2+1,d),⟨.cons rfl (.cons rfl (.cons rfl (.cons rfl (.cons rfl (.cons rfl (.cons (by dsimp only;rw [show ((((b-a-1)/2+1:Nat):Int)-1)=(((b-a-1)/2:Nat):Int) by omega];rfl) .nil)))))),rfl⟩,⟨UY _,hL,hR.symm,hr,z8 _ _⟩,?_⟩;rintro⟨k,d1⟩ X ⟨hk,hs1,hR1,hrX,gX⟩;dsimp only at hk hs1 hR1 hrX;refine biE (fun hc=>?_) fun hc=>?_
 ·have hc:(0:Int)<=(k:Int)-1:=dT hc;obtain⟨m,rfl⟩:∃ m,k=m+1:=⟨k-1,by omega⟩;have hm:(((m+1:Nat):Int)-1)=(m:Int):=by omega
  have c1:=znA (cap:=cap) (lo:=m) (hi:=b-a) (first:=a) hrX hs1 (by omega) hl (by omega);rw [<- hm] at c1;refine cmo c1 ?_;rintro e Y ⟨rfl,qY,gY⟩;exact⟨(m:Int)-1,(ze (by omega)).trans (by omega),(m,Go.Sort.siftDown lt8 (b-a) a m d1),(cvE rfl rfl),⟨by show m<=_;omega,by show (Go.Sort.siftDown ..).size=L;rw [zez _ _ _ _ _ (UY _)];exact hs1,hR1,qY,zd gX gY⟩,QD m⟩
 ·have hc:¬ (0:Int)<=(k:Int)-1:=dF hc;obtain rfl:k=0:=by omega
  have hR1:Go.Sort.heapPop lt8 a (b-a) d1=R:=hR1;refine⟨((b-a-1:Nat):Int),(ze (by first | omega | (dsimp only;omega))).trans (by first | omega | (dsimp only;omega)),Nat×Array UInt8,fun s=>⟨[(0,.slice (some ⟨g,0,none⟩) L cap),(1,i64 a),(2,i64 b),(6,i64 a),(7,i64 0),(8,i64 (b-a:Nat)),(10,i64 ((s.1:Int)-1))],[]⟩,fun s Y=>s.1<=b-a/\s.2.size=L/\Go.Sort.heapPop lt8 a s.1 s.2=R/\RB Y g sp s.2/\w.grownBy Y (some g),fun s=>s.1,(b-a,d1),⟨.cons rfl (.cons rfl (.cons rfl (.cons rfl (.cons rfl (.cons rfl (.cons (by dsimp only;rw [show (((b-a:Nat):Int)-1)=((b-a-1:Nat):Int) by omega];rfl) .nil)))))),rfl⟩,⟨UY _,hs1,hR1,hrX,gX⟩,?_⟩;rintro⟨k,d2⟩ Y ⟨hk,hs2,hR2,hrY,gY⟩;dsimp only at hk hs2 hR2 hrY;refine biE (fun hc=>?_) fun hc=>?_
  ·have hc:(0:Int)<=(k:Int)-1:=dT hc;obtain⟨m,rfl⟩:∃ m,k=m+1:=⟨k-1,by omega⟩;have hm:(((m+1:Nat):Int)-1)=(m:Int):=by omega
   have hi1:a<d2.size:=by omega
   have hi2:a+m<d2.size:=by omega
   have qd:RB Y.drew g sp d2:=hrY;refine DrawE.ord [17,19] [0,1,2,3,4,5,6,7,8,9,10,11,12,13,14,15,16,17,18,19] (by kernel_rfl) ⟨((a+m:Nat):Int),(ze (by first | omega | (dsimp only;omega))).trans (by first | omega | (dsimp only;omega)),((a+m:Nat):Int),(ze (by first | omega | (dsimp only;omega))).trans (by first | omega | (dsimp only;omega)),a+m,rfl,by omega,?_⟩;refine⟨_,zp qd hi2,a,rfl,by omega,?_⟩;refine⟨_,zp qd hi1,a,rfl,by omega,?_⟩;refine zF k5 rfl qd hi1 d2[a+m]! fun V1 q1 g1=>⟨a+m,rfl,by omega,?_⟩;refine zF k5 rfl q1 (by rw [Array.size_setIfInBounds];exact hi2) d2[a]! fun V2 q2 g2=>?_;have q2:RB V2 g sp (swp d2 (a) (a+m)):=q2;have z2:(swp d2 (a) (a+m)).size=d2.size:=Go.Sort.size_swp d2 (a) (a+m);have c1:=znA (cap:=cap) (lo:=0) (hi:=m) (first:=a) q2 (by rw [z2];exact hs2) (by omega) hl (by omega);rw [<- hm] at c1;refine cmo c1 ?_;rintro e Z ⟨rfl,qZ,gZ⟩;exact⟨(m:Int)-1,(ze (by omega)).trans (by omega),(m,Go.Sort.siftDown lt8 m a 0 (swp d2 a (a+m))),(cvE rfl rfl),⟨by show m<=_;omega,by show (Go.Sort.siftDown ..).size=L;rw [zez _ _ _ _ _ (UY _),z2];exact hs2,hR2,qZ,zd gY (zd (zt _ g) (zd g1 (zd g2 gZ)))⟩,QD m⟩
  ·have hc:¬ (0:Int)<=(k:Int)-1:=dF hc;obtain rfl:k=0:=by omega
   have hR2:d2=R:=hR2;exact⟨rfl,hR2▸hrY,gY⟩
end
theorem zdy {p:UInt8->Bool} {d:Array UInt8} {i j:Nat} (h:i<=j) (hp:p d[i]! = true):Go.Sort.scanUp p d j i=Go.Sort.scanUp p d j (i+1):=by
 rw [Go.Sort.scanUp,Gr (by rw [Uu h,hp];rfl)]
theorem zbj {p:UInt8->Bool} {d:Array UInt8} {i j:Nat} (h:i<=j->p d[i]! = false):Go.Sort.scanUp p d j i=i:=by
 rw [Go.Sort.scanUp];by_cases e:i<=j
 ·rw [Gq (by rw [h e,Uk];exact Kx)]
 ·rw [Gq (by rw [Uj e];exact Kx)]
theorem zcm {p:UInt8->Bool} {d:Array UInt8} {i j:Nat} (h:i<=j+1) (hp:p d[j+1]! = true):Go.Sort.scanDown p d i (j+1)=Go.Sort.scanDown p d i j:=by
 show (if (decide (i<=j+1)&&p d[j+1]!)=true then _ else _)=_;rw [Uu h,hp];rfl
theorem zaq {p:UInt8->Bool} {d:Array UInt8} {i:Nat}:∀ {j:Nat},(i<=j->p d[j]! = false)->Go.Sort.scanDown p d i j=j
 | 0,_=>rfl
 | j+1,h=>by
  show (if (decide (i<=j+1)&&p d[j+1]!)=true then _ else _)=_;by_cases e:i<=j+1
  ·rw [h e,Uk];rfl
  ·rw [Uj e];rfl
section
variable {w:Wd} {g cap L a b pivot:Nat} {sp:List Value} {d:Array UInt8}
theorem zq4 (hr:RB w g sp d) (hL:d.size=L) (hap:a<=pivot) (hpb:pivot<b) (hb:b<=L) (hl:L<=1000000) :
  Calls PG 145 #[.slice (some ⟨g,0,none⟩) L cap,i64 a,i64 b,i64 pivot] w fun e w'=>∃ m ap d',Go.Sort.partition lt8 d a b pivot=(m,ap,d')/\e = .returned (.tuple #[i64 (m:Nat),.bool ap])/\RB w' g sp d'/\w.grownBy w' (some g):=by
 refine qX 168 [.slice (some ⟨g,0,none⟩) L cap,i64 a,i64 b,i64 pivot] (.s .p (.s .p (.s .p (.c .p (.c .p (.s .p (.s .p (.s .p (.s .p (.c (.b (.l (.b (.c .p (.c .p .p))))) .p)))))))))) Tryz.func145 ?_;have ha1:a<d.size:=by omega
 have ha2:pivot<d.size:=by omega
 have q0:RB w.drew g sp d:=hr;refine DrawE.ord [13,15] [0,1,2,3,4,5,6,7,8,9,10,11,12,13,14,15] (by kernel_rfl) ⟨pivot,rfl,by omega,?_⟩;refine⟨_,zp q0 ha2,a,rfl,by omega,?_⟩;refine⟨_,zp q0 ha1,a,rfl,by omega,?_⟩;refine zF k5 rfl q0 ha1 d[pivot]! fun V1s q1s g1s=>⟨pivot,rfl,by omega,?_⟩;refine zF k5 rfl q1s (by rw [Array.size_setIfInBounds];exact ha2) d[a]! fun V2s q2s g2s=>?_;have q2s:RB V2s g sp (swp d (a) (pivot)):=q2s;have z2s:(swp d (a) (pivot)).size=d.size:=Go.Sort.size_swp d (a) (pivot);obtain⟨d1,hd1⟩:=nm (swp d a pivot);rw [<- hd1] at q2s z2s;have g0:=zd (zt w g) (zd g1s g2s);have hz1:d1.size=L:=by rw [z2s];exact hL
 refine⟨((a+1:Nat):Int),(ze (by first | omega | (dsimp only;omega))).trans (by first | omega | (dsimp only;omega)),?_⟩;obtain⟨J0,hJ0⟩:=nm (b-1);refine⟨((J0:Nat):Int),(ze (by first | omega | (dsimp only;omega))).trans (by first | omega | (dsimp only;omega)),?_⟩;obtain⟨I0,hI0⟩:=nm (Go.Sort.scanUp (fun x=>lt8 x d1[a]!) d1 J0 (a+1));obtain⟨K0,hK0⟩:=nm (Go.Sort.scanDown (fun x => !lt8 x d1[a]!) d1 I0 J0);have hPE:Go.Sort.partition lt8 d a b pivot=if I0 > K0 then (K0,true,swp d1 K0 a) else ((Go.Sort.partLoop lt8 a (I0+1) (K0-1) (swp d1 I0 K0)).1,false,swp (Go.Sort.partLoop lt8 a (I0+1) (K0-1) (swp d1 I0 K0)).2 (Go.Sort.partLoop lt8 a (I0+1) (K0-1) (swp d1 I0 K0)).1 a):=by rw [hK0,hI0,hJ0,hd1];rfl
 refine⟨Unit,fun _=>⟨[(0,.slice (some ⟨g,0,none⟩) L cap),(1,i64 a),(2,i64 b),(3,i64 pivot),(10,i64 (I0:Nat)),(11,i64 (J0:Nat))],[]⟩,fun _ X=>(a+1<=I0/\I0<=J0+1/\(I0<=J0->lt8 d1[I0]! d1[a]! = false))/\RB X g sp d1/\w.grownBy X (some g),?_,?_⟩
 ·refine⟨Nat,fun u=>⟨[(0,.slice (some ⟨g,0,none⟩) L cap),(1,i64 a),(2,i64 b),(3,i64 pivot),(10,i64 (u:Nat)),(11,i64 (J0:Nat))],[]⟩,fun u X=>a+1<=u/\u<=J0+1/\Go.Sort.scanUp (fun x=>lt8 x d1[a]!) d1 J0 u=I0/\RB X g sp d1/\w.grownBy X (some g),fun u=>J0+1-u,(a+1),(cvE rfl rfl),⟨by omega,by omega,hI0.symm,q2s,g0⟩,?_⟩;rintro u Y ⟨hi,hij,hRs,hrY,gY⟩;have gYd:=zd gY (zt Y g);have qd:RB Y.drew g sp d1:=hrY;refine DrawE.ord [] [0,1,2,3,4,5,6,7,8,9,10,11,12,13] (by kernel_rfl) (biE (fun h2=>?_) fun h2=>?_)
  ·have h2:(u:Int)<=(J0:Int):=dT h2;have h2:u<=J0:=by omega
   have hx1:u<d1.size:=by omega
   have hx2:a<d1.size:=by omega
   refine⟨u,rfl,by omega,?_⟩;refine⟨_,zp qd hx1,a,rfl,by omega,?_⟩;refine⟨_,zp qd hx2,cmo jz ?_⟩;rintro e _ ⟨rfl,rfl⟩;refine⟨Gd _ _,biE (fun h3=>?_) fun h3=>?_⟩
   ·have h3:lt8 d1[u]! d1[a]! = true:=h3;rw [zdy (p:=fun x=>lt8 x d1[a]!) h2 h3] at hRs;exact⟨((u+1:Nat):Int),(ze (by first | omega | (dsimp only;omega))).trans (by first | omega | (dsimp only;omega)),u+1,(cvE rfl rfl),⟨by omega,by omega,hRs,qd,gYd⟩,zdc (by omega)⟩
   ·have h3:lt8 d1[u]! d1[a]! = false:=h3;rw [zbj (p:=fun x=>lt8 x d1[a]!) fun _=>h3] at hRs;subst hRs;exact⟨(),(cvE rfl rfl),⟨hi,hij,fun _=>h3⟩,qd,gYd⟩
  ·have h2:¬ (u:Int)<=(J0:Int):=dF h2;refine Gi (fun h=>by cases h) (fun _=>?_);rw [zbj (p:=fun x=>lt8 x d1[a]!) fun h=>Gs h (by omega)] at hRs;subst hRs;exact⟨(),(cvE rfl rfl),⟨hi,hij,fun h=>Gs h (by omega)⟩,qd,gYd⟩
 rintro _ X ⟨⟨hI1,hI2,hI3⟩,hrX,gX⟩;refine⟨Unit,fun _=>⟨[(0,.slice (some ⟨g,0,none⟩) L cap),(1,i64 a),(2,i64 b),(3,i64 pivot),(10,i64 (I0:Nat)),(11,i64 (K0:Nat))],[]⟩,fun _ X=>(K0<=J0/\I0<=K0+1/\(I0<=K0->(!lt8 d1[K0]! d1[a]!)=false))/\RB X g sp d1/\w.grownBy X (some g),?_,?_⟩
 ·refine⟨Nat,fun k=>⟨[(0,.slice (some ⟨g,0,none⟩) L cap),(1,i64 a),(2,i64 b),(3,i64 pivot),(10,i64 (I0:Nat)),(11,i64 (k:Nat))],[]⟩,fun k X=>k<=J0/\I0<=k+1/\Go.Sort.scanDown (fun x => !lt8 x d1[a]!) d1 I0 k=K0/\RB X g sp d1/\w.grownBy X (some g),fun k=>k,J0,(cvE rfl rfl),⟨UY _,by omega,hK0.symm,hrX,gX⟩,?_⟩;rintro k Y ⟨hi,hij,hRs,hrY,gY⟩;have gYd:=zd gY (zt Y g);have qd:RB Y.drew g sp d1:=hrY;refine DrawE.ord [] [0,1,2,3,4,5,6,7,8,9,10,11,12,13,14] (by kernel_rfl) (biE (fun h2=>?_) fun h2=>?_)
  ·have h2:(I0:Int)<=(k:Int):=dT h2;have h2:I0<=k:=by omega
   have hx1:k<d1.size:=by omega
   have hx2:a<d1.size:=by omega
   refine⟨k,rfl,by omega,?_⟩;refine⟨_,zp qd hx1,a,rfl,by omega,?_⟩;refine⟨_,zp qd hx2,cmo jz ?_⟩;rintro e _ ⟨rfl,rfl⟩;refine⟨Gd _ _,biE (fun h3=>?_) fun h3=>?_⟩
   ·have h3:(!lt8 d1[k]! d1[a]!)=true:=h3;obtain⟨m,rfl⟩:∃ m,k=m+1:=⟨k-1,by omega⟩;rw [zcm (p:=fun x => !lt8 x d1[a]!) h2 h3] at hRs;exact⟨((m:Nat):Int),(ze (by first | omega | (dsimp only;omega))).trans (by first | omega | (dsimp only;omega)),m,(cvE rfl rfl),⟨by omega,by omega,hRs,qd,gYd⟩,QD m⟩
   ·have h3:(!lt8 d1[k]! d1[a]!)=false:=h3;rw [zaq (p:=fun x => !lt8 x d1[a]!) fun _=>h3] at hRs;subst hRs;exact⟨(),(cvE rfl rfl),⟨hi,hij,fun _=>h3⟩,qd,gYd⟩
  ·have h2:¬ (I0:Int)<=(k:Int):=dF h2;refine Gi (fun h=>by cases h) (fun _=>?_);rw [zaq (p:=fun x => !lt8 x d1[a]!) fun h=>Gs h (by omega)] at hRs;subst hRs;exact⟨(),(cvE rfl rfl),⟨hi,hij,fun h=>Gs h (by omega)⟩,qd,gYd⟩
 rintro _ Y ⟨⟨hK1,hK2,hK3⟩,hrY,gY⟩;refine biE (fun hc=>?_) fun hc=>?_
 ·have hc:(K0:Int)<(I0:Int):=dT hc;rw [Gr (by omega)] at hPE;have hx1:K0<d1.size:=by omega
  have hx2:a<d1.size:=by omega
  have qd:RB Y.drew g sp d1:=hrY;refine DrawE.ord [13,15] [0,1,2,3,4,5,6,7,8,9,10,11,12,13,14,15] (by kernel_rfl) ⟨a,rfl,by omega,?_⟩;refine⟨_,zp qd hx2,K0,rfl,by omega,?_⟩;refine⟨_,zp qd hx1,K0,rfl,by omega,?_⟩;refine zF k5 rfl qd hx1 d1[a]! fun V1 q1 g1=>⟨a,rfl,by omega,?_⟩;refine zF k5 rfl q1 (by rw [Array.size_setIfInBounds];exact hx2) d1[K0]! fun V2 q2 g2=>?_;have q2:RB V2 g sp (swp d1 (K0) (a)):=q2;have z2:(swp d1 (K0) (a)).size=d1.size:=Go.Sort.size_swp d1 (K0) (a);exact⟨K0,true,_,hPE,rfl,q2,zd gY (zd (zt _ g) (zd g1 g2))⟩
 ·have hc:¬ (K0:Int)<(I0:Int):=dF hc;rw [Gq (by omega)] at hPE;have hne0:I0≠K0:=fun h=>by
   have e1:=hI3 (by omega);have e2:=hK3 (by omega);rw [h] at e1;rw [e1] at e2
   cases e2
  have hx1:I0<d1.size:=by omega
  have hx2:K0<d1.size:=by omega
  have qd:RB Y.drew g sp d1:=hrY;refine DrawE.ord [13,15] [0,1,2,3,4,5,6,7,8,9,10,11,12,13,14,15] (by kernel_rfl) ⟨K0,rfl,by omega,?_⟩;refine⟨_,zp qd hx2,I0,rfl,by omega,?_⟩;refine⟨_,zp qd hx1,I0,rfl,by omega,?_⟩;refine zF k5 rfl qd hx1 d1[K0]! fun V1t q1t g1t=>⟨K0,rfl,by omega,?_⟩;refine zF k5 rfl q1t (by rw [Array.size_setIfInBounds];exact hx2) d1[I0]! fun V2t q2t g2t=>?_;have q2t:RB V2t g sp (swp d1 (I0) (K0)):=q2t;have z2t:(swp d1 (I0) (K0)).size=d1.size:=Go.Sort.size_swp d1 (I0) (K0);refine⟨((I0+1:Nat):Int),(ze (by first | omega | (dsimp only;omega))).trans (by first | omega | (dsimp only;omega)),((K0-1:Nat):Int),(ze (by first | omega | (dsimp only;omega))).trans (by first | omega | (dsimp only;omega)),?_⟩;obtain⟨d2,hd2⟩:=nm (swp d1 I0 K0);rw [<- hd2] at hPE q2t z2t;have gt0:=zd gY (zd (zt _ g) (zd g1t g2t));have hz2:d2.size=L:=by rw [z2t];exact hz1
  obtain⟨R2,hR2⟩:=nm (Go.Sort.partLoop lt8 a (I0+1) (K0-1) d2);refine⟨Unit,fun _=>⟨[(0,.slice (some ⟨g,0,none⟩) L cap),(1,i64 a),(2,i64 b),(3,i64 pivot),(11,i64 (R2.1:Nat))],[]⟩,fun _ X=>(a<=R2.1/\R2.1<b)/\R2.2.size=L/\RB X g sp R2.2/\w.grownBy X (some g),?_,?_⟩
  ·refine⟨Nat×Nat×Array UInt8,fun s=>⟨[(0,.slice (some ⟨g,0,none⟩) L cap),(1,i64 a),(2,i64 b),(3,i64 pivot),(10,i64 (s.1:Nat)),(11,i64 (s.2.1:Nat))],[]⟩,fun s X=>(a+1<=s.1/\s.1<=s.2.1+1/\s.2.1<b)/\s.2.2.size=L/\Go.Sort.partLoop lt8 a s.1 s.2.1 s.2.2=R2/\RB X g sp s.2.2/\w.grownBy X (some g),fun s=>s.2.1+1-s.1,((I0+1),(K0-1),d2),(cvE rfl rfl),⟨⟨by show a+1<=(I0+1);omega,by show (I0+1)<=(K0-1)+1;omega,by show (K0-1)<b;omega⟩,hz2,hR2.symm,q2t,gt0⟩,?_⟩;rintro⟨i,j,e⟩ X ⟨⟨hi,hij,hjb⟩,hze,hR,hrX,gX⟩;dsimp only at hi hij hjb hze hR hrX;rw [Go.Sort.partLoop_eq] at hR;obtain⟨I,hI⟩:=nm (Go.Sort.scanUp (fun x=>lt8 x e[a]!) e j i);rw [<- hI] at hR;obtain⟨J,hJ⟩:=nm (Go.Sort.scanDown (fun x => !lt8 x e[a]!) e I j);rw [<- hJ] at hR;refine⟨Unit,fun _=>⟨[(0,.slice (some ⟨g,0,none⟩) L cap),(1,i64 a),(2,i64 b),(3,i64 pivot),(10,i64 (I:Nat)),(11,i64 (j:Nat))],[]⟩,fun _ X=>(i<=I/\I<=j+1/\(I<=j->lt8 e[I]! e[a]! = false))/\RB X g sp e/\w.grownBy X (some g),?_,?_⟩
   ·refine⟨Nat,fun u=>⟨[(0,.slice (some ⟨g,0,none⟩) L cap),(1,i64 a),(2,i64 b),(3,i64 pivot),(10,i64 (u:Nat)),(11,i64 (j:Nat))],[]⟩,fun u X=>i<=u/\u<=j+1/\Go.Sort.scanUp (fun x=>lt8 x e[a]!) e j u=I/\RB X g sp e/\w.grownBy X (some g),fun u=>j+1-u,i,(cvE rfl rfl),⟨by omega,by omega,hI.symm,hrX,gX⟩,?_⟩;rintro u Y ⟨hi,hij,hRs,hrY,gY⟩;have gYd:=zd gY (zt Y g);have qd:RB Y.drew g sp e:=hrY;refine DrawE.ord [] [0,1,2,3,4,5,6,7,8,9,10,11,12,13] (by kernel_rfl) (biE (fun h2=>?_) fun h2=>?_)
    ·have h2:(u:Int)<=(j:Int):=dT h2;have h2:u<=j:=(by omega);have hx1:u<e.size:=(by omega);have hx2:a<e.size:=(by omega);refine⟨u,rfl,by omega,?_⟩;refine⟨_,zp qd hx1,a,rfl,by omega,?_⟩;refine⟨_,zp qd hx2,cmo jz ?_⟩;rintro e _ ⟨rfl,rfl⟩;refine⟨Gd _ _,biE (fun h3=>?_) fun h3=>?_⟩
     ·have h3:lt8 e[u]! e[a]! = true:=h3;rw [zdy (p:=fun x=>lt8 x e[a]!) h2 h3] at hRs;exact⟨((u+1:Nat):Int),(ze (by first | omega | (dsimp only;omega))).trans (by first | omega | (dsimp only;omega)),u+1,(cvE rfl rfl),⟨by omega,by omega,hRs,qd,gYd⟩,zdc (by omega)⟩
     ·have h3:lt8 e[u]! e[a]! = false:=h3;rw [zbj (p:=fun x=>lt8 x e[a]!) fun _=>h3] at hRs;subst hRs;exact⟨(),(cvE rfl rfl),⟨hi,hij,fun _=>h3⟩,qd,gYd⟩
    ·have h2:¬ (u:Int)<=(j:Int):=dF h2;refine Gi (fun h=>by cases h) (fun _=>?_);rw [zbj (p:=fun x=>lt8 x e[a]!) fun h=>Gs h (by omega)] at hRs;subst hRs;exact⟨(),(cvE rfl rfl),⟨hi,hij,fun h=>Gs h (by omega)⟩,qd,gYd⟩
   rintro _ Y ⟨⟨hI1,hI2,hI3⟩,hrY,gY⟩;refine⟨Unit,fun _=>⟨[(0,.slice (some ⟨g,0,none⟩) L cap),(1,i64 a),(2,i64 b),(3,i64 pivot),(10,i64 (I:Nat)),(11,i64 (J:Nat))],[]⟩,fun _ X=>(J<=j/\I<=J+1/\(I<=J->(!lt8 e[J]! e[a]!)=false))/\RB X g sp e/\w.grownBy X (some g),?_,?_⟩
   ·refine⟨Nat,fun k=>⟨[(0,.slice (some ⟨g,0,none⟩) L cap),(1,i64 a),(2,i64 b),(3,i64 pivot),(10,i64 (I:Nat)),(11,i64 (k:Nat))],[]⟩,fun k X=>k<=j/\I<=k+1/\Go.Sort.scanDown (fun x => !lt8 x e[a]!) e I k=J/\RB X g sp e/\w.grownBy X (some g),fun k=>k,j,(cvE rfl rfl),⟨UY _,by omega,hJ.symm,hrY,gY⟩,?_⟩;rintro k Y ⟨hi,hij,hRs,hrY,gY⟩;have gYd:=zd gY (zt Y g);have qd:RB Y.drew g sp e:=hrY;refine DrawE.ord [] [0,1,2,3,4,5,6,7,8,9,10,11,12,13,14] (by kernel_rfl) (biE (fun h2=>?_) fun h2=>?_)
    ·have h2:(I:Int)<=(k:Int):=dT h2;have h2:I<=k:=(by omega);have hx1:k<e.size:=(by omega);have hx2:a<e.size:=(by omega);refine⟨k,rfl,by omega,?_⟩;refine⟨_,zp qd hx1,a,rfl,by omega,?_⟩;refine⟨_,zp qd hx2,cmo jz ?_⟩;rintro e _ ⟨rfl,rfl⟩;refine⟨Gd _ _,biE (fun h3=>?_) fun h3=>?_⟩
     ·have h3:(!lt8 e[k]! e[a]!)=true:=h3;obtain⟨m,rfl⟩:∃ m,k=m+1:=⟨k-1,by omega⟩;rw [zcm (p:=fun x => !lt8 x e[a]!) h2 h3] at hRs;exact⟨((m:Nat):Int),(ze (by first | omega | (dsimp only;omega))).trans (by first | omega | (dsimp only;omega)),m,(cvE rfl rfl),⟨by omega,by omega,hRs,qd,gYd⟩,QD m⟩
     ·have h3:(!lt8 e[k]! e[a]!)=false:=h3;rw [zaq (p:=fun x => !lt8 x e[a]!) fun _=>h3] at hRs;subst hRs;exact⟨(),(cvE rfl rfl),⟨hi,hij,fun _=>h3⟩,qd,gYd⟩
    ·have h2:¬ (I:Int)<=(k:Int):=dF h2;refine Gi (fun h=>by cases h) (fun _=>?_);rw [zaq (p:=fun x => !lt8 x e[a]!) fun h=>Gs h (by omega)] at hRs;subst hRs;exact⟨(),(cvE rfl rfl),⟨hi,hij,fun h=>Gs h (by omega)⟩,qd,gYd⟩
   rintro _ Z ⟨⟨hJ1,hJ2,hJ3⟩,hrZ,gZ⟩;refine biE (fun hc=>?_) fun hc=>?_
   ·have hc:(J:Int)<(I:Int):=dT hc;rw [Gr (by omega)] at hR;subst hR;exact⟨(),(cvE rfl rfl),⟨by show a<=J;omega,by show J<b;omega⟩,hze,hrZ,gZ⟩
   ·have hc:¬ (J:Int)<(I:Int):=dF hc;rw [Gq (by omega)] at hR;have hne:I≠J:=fun h=>by
     have e1:=hI3 (by omega);have e2:=hJ3 (by omega);rw [h] at e1;rw [e1] at e2
     cases e2
    have hx1:I<e.size:=(by omega);have hx2:J<e.size:=(by omega);have qe:RB Z.drew g sp e:=hrZ;refine DrawE.ord [13,15] [0,1,2,3,4,5,6,7,8,9,10,11,12,13,14,15] (by kernel_rfl) ⟨J,rfl,by omega,?_⟩;refine⟨_,zp qe hx2,I,rfl,by omega,?_⟩;refine⟨_,zp qe hx1,I,rfl,by omega,?_⟩;refine zF k5 rfl qe hx1 e[J]! fun V1 q1 g1=>⟨J,rfl,by omega,?_⟩;refine zF k5 rfl q1 (by rw [Array.size_setIfInBounds];exact hx2) e[I]! fun V2 q2 g2=>?_;have q2:RB V2 g sp (swp e (I) (J)):=q2;have z2:(swp e (I) (J)).size=e.size:=Go.Sort.size_swp e (I) (J);exact⟨((I+1:Nat):Int),(ze (by first | omega | (dsimp only;omega))).trans (by first | omega | (dsimp only;omega)),((J-1:Nat):Int),(ze (by first | omega | (dsimp only;omega))).trans (by first | omega | (dsimp only;omega)),(I+1,J-1,swp e I J),(cvE rfl rfl),⟨⟨by show a+1<=I+1;omega,by show I+1<=J-1+1;omega,by show J-1<b;omega⟩,by show (swp e I J).size=L;rw [z2];exact hze,hR,q2,zd gZ (zd (zt _ g) (zd g1 g2))⟩,by show J-1+1-(I+1)<j+1-i;omega⟩
  rintro _ X2 ⟨⟨hm1,hm2⟩,hzR,hrX2,gX2⟩;rw [<- hR2] at hPE;have hy1:R2.1<R2.2.size:=by omega
  have hy2:a<R2.2.size:=by omega
  have qf:RB X2.drew g sp R2.2:=hrX2;refine DrawE.ord [13,15] [0,1,2,3,4,5,6,7,8,9,10,11,12,13,14,15] (by kernel_rfl) ⟨a,rfl,by omega,?_⟩;refine⟨_,zp qf hy2,R2.1,rfl,by omega,?_⟩;refine⟨_,zp qf hy1,R2.1,rfl,by omega,?_⟩;refine zF k5 rfl qf hy1 R2.2[a]! fun V1u q1u g1u=>⟨a,rfl,by omega,?_⟩;refine zF k5 rfl q1u (by rw [Array.size_setIfInBounds];exact hy2) R2.2[R2.1]! fun V2u q2u g2u=>?_;have q2u:RB V2u g sp (swp R2.2 (R2.1) (a)):=q2u;have z2u:(swp R2.2 (R2.1) (a)).size=R2.2.size:=Go.Sort.size_swp R2.2 (R2.1) (a);exact⟨R2.1,false,_,hPE,rfl,q2u,zd gX2 (zd (zt _ g) (zd g1u g2u))⟩
theorem znV (hr:RB w g sp d) (hL:d.size=L) (hap:a<=pivot) (hpb:pivot<b) (hb:b<=L) (hl:L<=1000000) :
  Calls PG 144 #[.slice (some ⟨g,0,none⟩) L cap,i64 a,i64 b,i64 pivot] w fun e w'=>∃ m d',Go.Sort.partitionEqual lt8 d a b pivot=(m,d')/\e = .returned (i64 (m:Nat))/\RB w' g sp d'/\w.grownBy w' (some g):=by
 refine qX 84 [.slice (some ⟨g,0,none⟩) L cap,i64 a,i64 b,i64 pivot] (.s .p (.s .p (.s .p (.c (.b (.l (.b (.c .p (.c .p .p))))) .p)))) Tryz.func144 ?_;have ha1:a<d.size:=by omega
 have ha2:pivot<d.size:=by omega
 have q0:RB w.drew g sp d:=hr;refine DrawE.ord [13,15] [0,1,2,3,4,5,6,7,8,9,10,11,12,13,14,15] (by kernel_rfl) ⟨pivot,rfl,by omega,?_⟩;refine⟨_,zp q0 ha2,a,rfl,by omega,?_⟩;refine⟨_,zp q0 ha1,a,rfl,by omega,?_⟩;refine zF k5 rfl q0 ha1 d[pivot]! fun V1s q1s g1s=>⟨pivot,rfl,by omega,?_⟩;refine zF k5 rfl q1s (by rw [Array.size_setIfInBounds];exact ha2) d[a]! fun V2s q2s g2s=>?_;have q2s:RB V2s g sp (swp d (a) (pivot)):=q2s;have z2s:(swp d (a) (pivot)).size=d.size:=Go.Sort.size_swp d (a) (pivot);obtain⟨d1,hd1⟩:=nm (swp d a pivot);rw [<- hd1] at q2s z2s;have g0:=zd (zt w g) (zd g1s g2s);have hz1:d1.size=L:=by rw [z2s];exact hL
 refine⟨((a+1:Nat):Int),(ze (by first | omega | (dsimp only;omega))).trans (by first | omega | (dsimp only;omega)),?_⟩;obtain⟨J0,hJ0⟩:=nm (b-1);refine⟨((J0:Nat):Int),(ze (by first | omega | (dsimp only;omega))).trans (by first | omega | (dsimp only;omega)),?_⟩;have hPE:Go.Sort.partitionEqual lt8 d a b pivot=Go.Sort.partEqLoop lt8 a (a+1) J0 d1:=by rw [hJ0,hd1];rfl
 obtain⟨R2,hR2⟩:=nm (Go.Sort.partEqLoop lt8 a (a+1) J0 d1);refine⟨Unit,fun _=>⟨[(0,.slice (some ⟨g,0,none⟩) L cap),(1,i64 a),(2,i64 b),(3,i64 pivot),(9,i64 (R2.1:Nat))],[]⟩,fun _ X=>(a<=R2.1/\R2.1<=b)/\R2.2.size=L/\RB X g sp R2.2/\w.grownBy X (some g),?_,?_⟩
 ·refine⟨Nat×Nat×Array UInt8,fun s=>⟨[(0,.slice (some ⟨g,0,none⟩) L cap),(1,i64 a),(2,i64 b),(3,i64 pivot),(9,i64 (s.1:Nat)),(10,i64 (s.2.1:Nat))],[]⟩,fun s X=>(a+1<=s.1/\s.1<=s.2.1+1/\s.2.1<b)/\s.2.2.size=L/\Go.Sort.partEqLoop lt8 a s.1 s.2.1 s.2.2=R2/\RB X g sp s.2.2/\w.grownBy X (some g),fun s=>s.2.1+1-s.1,((a+1),J0,d1),(cvE rfl rfl),⟨⟨by show a+1<=(a+1);omega,by show (a+1)<=J0+1;omega,by show J0<b;omega⟩,hz1,hR2.symm,q2s,g0⟩,?_⟩;rintro⟨i,j,e⟩ X ⟨⟨hi,hij,hjb⟩,hze,hR,hrX,gX⟩;dsimp only at hi hij hjb hze hR hrX;rw [Go.Sort.partEqLoop_eq] at hR;obtain⟨I,hI⟩:=nm (Go.Sort.scanUp (fun x => !lt8 e[a]! x) e j i);rw [<- hI] at hR;obtain⟨J,hJ⟩:=nm (Go.Sort.scanDown (fun x=>lt8 e[a]! x) e I j);rw [<- hJ] at hR;refine⟨Unit,fun _=>⟨[(0,.slice (some ⟨g,0,none⟩) L cap),(1,i64 a),(2,i64 b),(3,i64 pivot),(9,i64 (I:Nat)),(10,i64 (j:Nat))],[]⟩,fun _ X=>(i<=I/\I<=j+1/\(I<=j->(!lt8 e[a]! e[I]!)=false))/\RB X g sp e/\w.grownBy X (some g),?_,?_⟩
  ·refine⟨Nat,fun u=>⟨[(0,.slice (some ⟨g,0,none⟩) L cap),(1,i64 a),(2,i64 b),(3,i64 pivot),(9,i64 (u:Nat)),(10,i64 (j:Nat))],[]⟩,fun u X=>i<=u/\u<=j+1/\Go.Sort.scanUp (fun x => !lt8 e[a]! x) e j u=I/\RB X g sp e/\w.grownBy X (some g),fun u=>j+1-u,i,(cvE rfl rfl),⟨by omega,by omega,hI.symm,hrX,gX⟩,?_⟩;rintro u Y ⟨hi,hij,hRs,hrY,gY⟩;have gYd:=zd gY (zt Y g);have qd:RB Y.drew g sp e:=hrY;refine DrawE.ord [] [0,1,2,3,4,5,6,7,8,9,10,11,12,13,14] (by kernel_rfl) (biE (fun h2=>?_) fun h2=>?_)
   ·have h2:(u:Int)<=(j:Int):=dT h2;have h2:u<=j:=(by omega);have hx1:u<e.size:=(by omega);have hx2:a<e.size:=(by omega);refine⟨a,rfl,by omega,?_⟩;refine⟨_,zp qd hx2,u,rfl,by omega,?_⟩;refine⟨_,zp qd hx1,cmo jz ?_⟩;rintro e _ ⟨rfl,rfl⟩;refine⟨Gd _ _,biE (fun h3=>?_) fun h3=>?_⟩
    ·have h3:(!lt8 e[a]! e[u]!)=true:=h3;rw [zdy (p:=fun x => !lt8 e[a]! x) h2 h3] at hRs;exact⟨((u+1:Nat):Int),(ze (by first | omega | (dsimp only;omega))).trans (by first | omega | (dsimp only;omega)),u+1,(cvE rfl rfl),⟨by omega,by omega,hRs,qd,gYd⟩,zdc (by omega)⟩
    ·have h3:(!lt8 e[a]! e[u]!)=false:=h3;rw [zbj (p:=fun x => !lt8 e[a]! x) fun _=>h3] at hRs;subst hRs;exact⟨(),(cvE rfl rfl),⟨hi,hij,fun _=>h3⟩,qd,gYd⟩
   ·have h2:¬ (u:Int)<=(j:Int):=dF h2;refine Gi (fun h=>by cases h) (fun _=>?_);rw [zbj (p:=fun x => !lt8 e[a]! x) fun h=>Gs h (by omega)] at hRs;subst hRs;exact⟨(),(cvE rfl rfl),⟨hi,hij,fun h=>Gs h (by omega)⟩,qd,gYd⟩
  rintro _ Y ⟨⟨hI1,hI2,hI3⟩,hrY,gY⟩;refine⟨Unit,fun _=>⟨[(0,.slice (some ⟨g,0,none⟩) L cap),(1,i64 a),(2,i64 b),(3,i64 pivot),(9,i64 (I:Nat)),(10,i64 (J:Nat))],[]⟩,fun _ X=>(J<=j/\I<=J+1/\(I<=J->lt8 e[a]! e[J]! = false))/\RB X g sp e/\w.grownBy X (some g),?_,?_⟩
  ·refine⟨Nat,fun k=>⟨[(0,.slice (some ⟨g,0,none⟩) L cap),(1,i64 a),(2,i64 b),(3,i64 pivot),(9,i64 (I:Nat)),(10,i64 (k:Nat))],[]⟩,fun k X=>k<=j/\I<=k+1/\Go.Sort.scanDown (fun x=>lt8 e[a]! x) e I k=J/\RB X g sp e/\w.grownBy X (some g),fun k=>k,j,(cvE rfl rfl),⟨UY _,by omega,hJ.symm,hrY,gY⟩,?_⟩;rintro k Y ⟨hi,hij,hRs,hrY,gY⟩;have gYd:=zd gY (zt Y g);have qd:RB Y.drew g sp e:=hrY;refine DrawE.ord [] [0,1,2,3,4,5,6,7,8,9,10,11,12,13] (by kernel_rfl) (biE (fun h2=>?_) fun h2=>?_)
   ·have h2:(I:Int)<=(k:Int):=dT h2;have h2:I<=k:=(by omega);have hx1:k<e.size:=(by omega);have hx2:a<e.size:=(by omega);refine⟨a,rfl,by omega,?_⟩;refine⟨_,zp qd hx2,k,rfl,by omega,?_⟩;refine⟨_,zp qd hx1,cmo jz ?_⟩;rintro e _ ⟨rfl,rfl⟩;refine⟨Gd _ _,biE (fun h3=>?_) fun h3=>?_⟩
    ·have h3:lt8 e[a]! e[k]! = true:=h3;obtain⟨m,rfl⟩:∃ m,k=m+1:=⟨k-1,by omega⟩;rw [zcm (p:=fun x=>lt8 e[a]! x) h2 h3] at hRs;exact⟨((m:Nat):Int),(ze (by first | omega | (dsimp only;omega))).trans (by first | omega | (dsimp only;omega)),m,(cvE rfl rfl),⟨by omega,by omega,hRs,qd,gYd⟩,QD m⟩
    ·have h3:lt8 e[a]! e[k]! = false:=h3;rw [zaq (p:=fun x=>lt8 e[a]! x) fun _=>h3] at hRs;subst hRs;exact⟨(),(cvE rfl rfl),⟨hi,hij,fun _=>h3⟩,qd,gYd⟩
   ·have h2:¬ (I:Int)<=(k:Int):=dF h2;refine Gi (fun h=>by cases h) (fun _=>?_);rw [zaq (p:=fun x=>lt8 e[a]! x) fun h=>Gs h (by omega)] at hRs;subst hRs;exact⟨(),(cvE rfl rfl),⟨hi,hij,fun h=>Gs h (by omega)⟩,qd,gYd⟩
  rintro _ Z ⟨⟨hJ1,hJ2,hJ3⟩,hrZ,gZ⟩;refine biE (fun hc=>?_) fun hc=>?_
  ·have hc:(J:Int)<(I:Int):=dT hc;rw [Gr (by omega)] at hR;subst hR;exact⟨(),(cvE rfl rfl),⟨by show a<=I;omega,by show I<=b;omega⟩,hze,hrZ,gZ⟩
  ·have hc:¬ (J:Int)<(I:Int):=dF hc;rw [Gq (by omega)] at hR;have hne:I≠J:=fun h=>by
    have e1:=hI3 (by omega);have e2:=hJ3 (by omega);rw [h] at e1;rw [e2] at e1
    cases e1
   have hx1:I<e.size:=by omega
   have hx2:J<e.size:=by omega
   have qe:RB Z.drew g sp e:=hrZ;refine DrawE.ord [13,15] [0,1,2,3,4,5,6,7,8,9,10,11,12,13,14,15] (by kernel_rfl) ⟨J,rfl,by omega,?_⟩;refine⟨_,zp qe hx2,I,rfl,by omega,?_⟩;refine⟨_,zp qe hx1,I,rfl,by omega,?_⟩;refine zF k5 rfl qe hx1 e[J]! fun V1 q1 g1=>⟨J,rfl,by omega,?_⟩;refine zF k5 rfl q1 (by rw [Array.size_setIfInBounds];exact hx2) e[I]! fun V2 q2 g2=>?_;have q2:RB V2 g sp (swp e (I) (J)):=q2;have z2:(swp e (I) (J)).size=e.size:=Go.Sort.size_swp e (I) (J);exact⟨((I+1:Nat):Int),(ze (by first | omega | (dsimp only;omega))).trans (by first | omega | (dsimp only;omega)),((J-1:Nat):Int),(ze (by first | omega | (dsimp only;omega))).trans (by first | omega | (dsimp only;omega)),(I+1,J-1,swp e I J),(cvE rfl rfl),⟨⟨by show a+1<=I+1;omega,by show I+1<=J-1+1;omega,by show J-1<b;omega⟩,by show (swp e I J).size=L;rw [z2];exact hze,hR,q2,zd gZ (zd (zt _ g) (zd g1 g2))⟩,by show J-1+1-(I+1)<j+1-i;omega⟩
 rintro _ X ⟨⟨hm1,hm2⟩,hzR,hrX,gX⟩;exact⟨R2.1,R2.2,hPE.trans hR2.symm,rfl,hrX,gX⟩
end
theorem zmp {d:Array UInt8} {b i:Nat} (h:i<b) (hp:lt8 d[i]! d[i-1]! = false):Go.Sort.scanSorted lt8 d b i=Go.Sort.scanSorted lt8 d b (i+1):=by
 rw [Go.Sort.scanSorted,Gr (by rw [Uu h,hp];rfl)]
theorem zi4 {d:Array UInt8} {b i:Nat} (h:i<b->lt8 d[i]! d[i-1]! = true):Go.Sort.scanSorted lt8 d b i=i:=by
 rw [Go.Sort.scanSorted];by_cases e:i<b
 ·rw [Gq (by rw [h e,Uy,Uk];exact Kx)]
 ·rw [Gq (by rw [Uj e];exact Kx)]
section
variable {w:Wd} {g cap L a b:Nat} {sp:List Value} {d:Array UInt8}
theorem zqW (hr:RB w g sp d) (hL:d.size=L) (hab:a<b) (hb:b<=L) (hl:L<=1000000) :
  Calls PG 141 #[.slice (some ⟨g,0,none⟩) L cap,i64 a,i64 b] w fun e w'=>e = .returned (.tuple #[])/\RB w' g sp (Go.Sort.reverseRange d a b)/\w.grownBy w' (some g):=by
 refine zI 32 [.slice (some ⟨g,0,none⟩) L cap,i64 a,i64 b] Tryz.func141 ?_;obtain⟨R,hR⟩:=nm (Go.Sort.reverseRange d a b);rw [<- hR];refine⟨((b-1:Nat):Int),(ze (by first | omega | (dsimp only;omega))).trans (by first | omega | (dsimp only;omega)),Nat×Nat×Array UInt8,fun s=>⟨[(0,.slice (some ⟨g,0,none⟩) L cap),(1,i64 a),(2,i64 b),(6,i64 (s.1:Nat)),(7,i64 (s.2.1:Nat))],[]⟩,fun s X=>s.2.1<b/\s.2.2.size=L/\Go.Sort.reverseLoop s.1 s.2.1 s.2.2=R/\RB X g sp s.2.2/\w.grownBy X (some g),fun s=>s.2.1-s.1,(a,b-1,d),(cvE rfl rfl),⟨by show b-1<b;omega,hL,hR.symm,hr,z8 _ _⟩,?_⟩;rintro⟨i,j,e⟩ X ⟨hj,hze,hR1,hrX,gX⟩;dsimp only at hj hze hR1 hrX;rw [Go.Sort.reverseLoop] at hR1;refine biE (fun hc=>?_) fun hc=>?_
 ·have hc:(i:Int)<(j:Int):=dT hc;rw [Gr (by omega)] at hR1;have hx1:i<e.size:=by omega
  have hx2:j<e.size:=by omega
  have qd:RB X.drew g sp e:=hrX;refine DrawE.ord [13,15] [0,1,2,3,4,5,6,7,8,9,10,11,12,13,14,15] (by kernel_rfl) ⟨j,rfl,by omega,?_⟩;refine⟨_,zp qd hx2,i,rfl,by omega,?_⟩;refine⟨_,zp qd hx1,i,rfl,by omega,?_⟩;refine zF k5 rfl qd hx1 e[j]! fun V1 q1 g1=>⟨j,rfl,by omega,?_⟩;refine zF k5 rfl q1 (by rw [Array.size_setIfInBounds];exact hx2) e[i]! fun V2 q2 g2=>?_;have q2:RB V2 g sp (swp e (i) (j)):=q2;have z2:(swp e (i) (j)).size=e.size:=Go.Sort.size_swp e (i) (j);exact⟨((i+1:Nat):Int),(ze (by first | omega | (dsimp only;omega))).trans (by first | omega | (dsimp only;omega)),((j-1:Nat):Int),(ze (by first | omega | (dsimp only;omega))).trans (by first | omega | (dsimp only;omega)),(i+1,j-1,swp e i j),(cvE rfl rfl),⟨by show j-1<b;omega,by show (swp e i j).size=L;rw [z2];exact hze,hR1,q2,zd gX (zd (zt _ g) (zd g1 g2))⟩,by show j-1-(i+1)<j-i;omega⟩
 ·have hc:¬ (i:Int)<(j:Int):=dF hc;rw [Gq (by omega)] at hR1;exact⟨rfl,hR1▸hrX,gX⟩
theorem zmC (hr:RB w g sp d) (hL:d.size=L) (hab:a<b) (hb:b<=L) (hl:L<=1000000) :
  Calls PG 142 #[.slice (some ⟨g,0,none⟩) L cap,i64 a,i64 b] w fun e w'=>∃ d' ok,Go.Sort.partialInsertionSort lt8 d a b=(d',ok)/\e = .returned (.bool ok)/\RB w' g sp d'/\w.grownBy w' (some g):=by
 refine qX 133 [.slice (some ⟨g,0,none⟩) L cap,i64 a,i64 b] (.s .p (.s .p (.s (.s .p (.b (.l (.s .p (.c (.b (.c .p (.s .p (.s .p (.s .p (.c .p .p)))))) .p))))) .p))) Tryz.func142 ?_;obtain⟨R,hR⟩:=nm (Go.Sort.partialInsertionSort lt8 d a b);have fin:∀ Z d' ok,(d',ok)=R->RB Z g sp d'->w.grownBy Z (some g)->∃ d'' ok',Go.Sort.partialInsertionSort lt8 d a b=(d'',ok')/\Ending.returned (.bool ok) = .returned (.bool ok')/\RB Z g sp d''/\w.grownBy Z (some g):=fun Z d' ok e q gz=>⟨d',ok,by rw [<- hR,<- e],rfl,q,gz⟩;refine⟨((a+1:Nat):Int),(ze (by first | omega | (dsimp only;omega))).trans (by first | omega | (dsimp only;omega)),Nat×Nat×Array UInt8,fun s=>⟨[(0,.slice (some ⟨g,0,none⟩) L cap),(1,i64 a),(2,i64 b),(7,i64 (s.2.1:Nat)),(8,i64 (s.1:Nat))],[]⟩,fun s X=>(s.1<=5/\a+1<=s.2.1/\s.2.1<=b)/\s.2.2.size=L/\Go.Sort.partialIns lt8 a b (5-s.1) s.2.1 s.2.2=R/\RB X g sp s.2.2/\w.grownBy X (some g),fun s=>5-s.1,(0,a+1,d),(cvE rfl rfl),⟨⟨by show 0<=5;decide,UY _,by show a+1<=b;omega⟩,hL,hR.symm,hr,z8 _ _⟩,?_⟩;rintro⟨n,i,e⟩ X ⟨⟨hn,hi,hib⟩,hze,hR1,hrX,gX⟩;dsimp only at hn hi hib hze hR1 hrX;refine biE (fun hc=>?_) fun hc=>?_
 ·have hc:(n:Int)<5:=dT hc;have hn5:5-n=(5-(n+1))+1:=by omega
  rw [hn5] at hR1;obtain⟨I,hI⟩:=nm (Go.Sort.scanSorted lt8 e b i);have hR1:(if I=b then (e,true) else if b-a<50 then (e,false) else Go.Sort.partialIns lt8 a b (5-(n+1)) I (if b-I ≥ 2 then Go.Sort.shiftUp lt8 b (I+1) (if I-a ≥ 2 then Go.Sort.shiftDown lt8 (I-1) (swp e I (I-1)) else swp e I (I-1)) else (if I-a ≥ 2 then Go.Sort.shiftDown lt8 (I-1) (swp e I (I-1)) else swp e I (I-1))))=R:=by rw [hI];exact hR1
  obtain⟨D1,hD1⟩:=nm (swp e I (I-1));obtain⟨D2,hD2⟩:=nm ((if I-a ≥ 2 then Go.Sort.shiftDown lt8 (I-1) D1 else D1));obtain⟨D3,hD3⟩:=nm ((if b-I ≥ 2 then Go.Sort.shiftUp lt8 b (I+1) D2 else D2));rw [<- hD1,<- hD2,<- hD3] at hR1;refine⟨Unit,fun _=>⟨[(0,.slice (some ⟨g,0,none⟩) L cap),(1,i64 a),(2,i64 b),(7,i64 (I:Nat)),(8,i64 (n:Nat))],[]⟩,fun _ Y=>(a+1<=I/\I<=b)/\D3.size=L/\Go.Sort.partialIns lt8 a b (5-(n+1)) I D3=R/\RB Y g sp D3/\w.grownBy Y (some g),?_,?_⟩
  ·refine⟨Unit,fun _=>⟨[(0,.slice (some ⟨g,0,none⟩) L cap),(1,i64 a),(2,i64 b),(7,i64 (I:Nat)),(8,i64 (n:Nat))],[]⟩,fun _ Y=>(a+1<=I/\I<=b)/\RB Y g sp e/\w.grownBy Y (some g),?_,?_⟩
   ·refine⟨Nat,fun k=>⟨[(0,.slice (some ⟨g,0,none⟩) L cap),(1,i64 a),(2,i64 b),(7,i64 (k:Nat)),(8,i64 (n:Nat))],[]⟩,fun k Y=>(a+1<=k/\k<=b)/\Go.Sort.scanSorted lt8 e b k=I/\RB Y g sp e/\w.grownBy Y (some g),fun k=>b-k,i,(cvE rfl rfl),⟨⟨hi,hib⟩,hI.symm,hrX,gX⟩,?_⟩;rintro k Y ⟨⟨hk1,hk2⟩,hRs,hrY,gY⟩;have gYd:=zd gY (zt Y g);have qd:RB Y.drew g sp e:=hrY;refine DrawE.ord [] [0,1,2,3,4,5,6,7,8,9,10,11,12,13,14,15] (by kernel_rfl) (biE (fun h2=>?_) fun h2=>?_)
    ·have h2:(k:Int)<(b:Int):=dT h2;have h2:k<b:=(by omega);have hx1:k<e.size:=(by omega);have hx2:k-1<e.size:=(by omega);refine⟨k,rfl,by omega,?_⟩;refine⟨_,zp qd hx1,((k-1:Nat):Int),(ze (by first | omega | (dsimp only;omega))).trans (by first | omega | (dsimp only;omega)),k-1,rfl,by omega,?_⟩;refine⟨_,zp qd hx2,cmo jz ?_⟩;rintro e _ ⟨rfl,rfl⟩;refine⟨Gd _ _,biE (fun h3=>?_) fun h3=>?_⟩
     ·have h3:(!lt8 e[k]! e[k-1]!)=true:=h3;have h3:lt8 e[k]! e[k-1]! = false:=(by simpa using h3);rw [zmp h2 h3] at hRs;exact⟨((k+1:Nat):Int),(ze (by first | omega | (dsimp only;omega))).trans (by first | omega | (dsimp only;omega)),k+1,(cvE rfl rfl),⟨⟨by omega,by omega⟩,hRs,qd,gYd⟩,zdc (by omega)⟩
     ·have h3:(!lt8 e[k]! e[k-1]!)=false:=h3;have h3:lt8 e[k]! e[k-1]! = true:=(by simpa using h3);rw [zi4 fun _=>h3] at hRs;subst hRs;exact⟨(),(cvE rfl rfl),⟨hk1,hk2⟩,qd,gYd⟩
    ·have h2:¬ (k:Int)<(b:Int):=dF h2;refine Gi (fun h=>by cases h) (fun _=>?_);rw [zi4 fun h=>Gs h (by omega)] at hRs;subst hRs;exact⟨(),(cvE rfl rfl),⟨hk1,hk2⟩,qd,gYd⟩
   rintro _ Y ⟨⟨hI1,hI2⟩,hrY,gY⟩;refine biE (fun h=>?_) fun h=>?_
   ·have h:(I:Int)=(b:Int):=dT h;rw [Gr (by omega)] at hR1;exact fin _ _ _ hR1 hrY gY
   ·have h:¬ (I:Int)=(b:Int):=dF h;have hIb:I<b:=(by omega);rw [Gq (by omega)] at hR1;refine⟨((b-a:Nat):Int),(ze (by first | omega | (dsimp only;omega))).trans (by first | omega | (dsimp only;omega)),biE (fun h5=>?_) fun h5=>?_⟩
    ·have h5:((b-a:Nat):Int)<50:=dT h5;rw [Gr (by omega)] at hR1;exact fin _ _ _ hR1 hrY gY
    ·have h5:¬ ((b-a:Nat):Int)<50:=dF h5;rw [Gq (by omega)] at hR1;have hx1:I<e.size:=(by omega);have hx2:I-1<e.size:=(by omega);have qd:RB Y.drew g sp e:=hrY;refine DrawE.ord [15,17] [0,1,2,3,4,5,6,7,8,9,10,11,12,13,14,15,16,17] (by kernel_rfl) ⟨((I-1:Nat):Int),(ze (by first | omega | (dsimp only;omega))).trans (by first | omega | (dsimp only;omega)),((I-1:Nat):Int),(ze (by first | omega | (dsimp only;omega))).trans (by first | omega | (dsimp only;omega)),I-1,rfl,by omega,?_⟩;refine⟨_,zp qd hx2,I,rfl,by omega,?_⟩;refine⟨_,zp qd hx1,I,rfl,by omega,?_⟩;refine zF k5 rfl qd hx1 e[I-1]! fun V1s q1s g1s=>⟨I-1,rfl,by omega,?_⟩;refine zF k5 rfl q1s (by rw [Array.size_setIfInBounds];exact hx2) e[I]! fun V2s q2s g2s=>?_;have q2s:RB V2s g sp (swp e (I) (I-1)):=q2s;have z2s:(swp e (I) (I-1)).size=e.size:=Go.Sort.size_swp e (I) (I-1);rw [<- hD1] at q2s z2s;have gs:=zd gY (zd (zt _ g) (zd g1s g2s));have hz1:D1.size=L:=(by rw [z2s];exact hze);refine⟨Unit,fun _=>⟨[(0,.slice (some ⟨g,0,none⟩) L cap),(1,i64 a),(2,i64 b),(7,i64 (I:Nat)),(8,i64 (n:Nat))],[]⟩,fun _ Z=>D2.size=L/\RB Z g sp D2/\w.grownBy Z (some g),?_,?_⟩
     ·refine⟨((I-a:Nat):Int),(ze (by first | omega | (dsimp only;omega))).trans (by first | omega | (dsimp only;omega)),biE (fun h6=>?_) fun h6=>?_⟩
      ·have h6:(2:Int)<=((I-a:Nat):Int):=dT h6;rw [Gr (by omega)] at hD2;refine⟨((I-1:Nat):Int),(ze (by first | omega | (dsimp only;omega))).trans (by first | omega | (dsimp only;omega)),Nat×Array UInt8,fun s=>⟨[(0,.slice (some ⟨g,0,none⟩) L cap),(1,i64 a),(2,i64 b),(7,i64 (I:Nat)),(8,i64 (n:Nat)),(9,i64 (s.1:Nat))],[]⟩,fun s V=>(s.1<=I-1)/\s.2.size=L/\Go.Sort.shiftDown lt8 s.1 s.2=D2/\RB V g sp s.2/\w.grownBy V (some g),fun s=>s.1,(I-1,D1),(cvE rfl rfl),⟨UY _,hz1,hD2.symm,q2s,gs⟩,?_⟩;rintro⟨k,f⟩ V ⟨hk,hzf,hRf,hrV,gV⟩;dsimp only at hk hzf hRf hrV;refine biE (fun h7=>?_) fun h7=>?_
       ·have h7:(1:Int)<=(k:Int):=dT h7;obtain⟨m,rfl⟩:∃ m,k=m+1:=⟨k-1,by omega⟩;have hRf:(if (!lt8 f[m+1]! f[m]!)=true then f else Go.Sort.shiftDown lt8 m (swp f (m+1) m))=D2:=hRf;have hx3:m+1<f.size:=(by omega);have hx4:m<f.size:=(by omega);have qv:RB V.drew g sp f:=hrV;have gVd:=zd gV (zt V g);refine DrawE.ord [] [0,1,2,3,4,5,6,7,8,9,10] (by kernel_rfl) ⟨m+1,rfl,by omega,?_⟩;refine⟨_,zp qv hx3,((m:Nat):Int),(ze (by first | omega | (dsimp only;omega))).trans (by first | omega | (dsimp only;omega)),m,rfl,by omega,?_⟩;refine⟨_,zp qv hx4,cmo jz ?_⟩;rintro e _ ⟨rfl,rfl⟩;refine⟨Gd _ _,biE (fun h8=>?_) fun h8=>?_⟩
        ·have h8:(!lt8 f[m+1]! f[m]!)=true:=h8;rw [Gr h8] at hRf;subst hRf;exact⟨(),(cvE rfl rfl),hzf,qv,gVd⟩
        ·have h8:(!lt8 f[m+1]! f[m]!)=false:=h8;rw [Gq (by rw [h8];exact Kx)] at hRf;have qw:RB V.drew.drew g sp f:=hrV;refine DrawE.ord [15,17] [0,1,2,3,4,5,6,7,8,9,10,11,12,13,14,15,16,17] (by kernel_rfl) ⟨((m:Nat):Int),(ze (by first | omega | (dsimp only;omega))).trans (by first | omega | (dsimp only;omega)),((m:Nat):Int),(ze (by first | omega | (dsimp only;omega))).trans (by first | omega | (dsimp only;omega)),m,rfl,by omega,?_⟩;refine⟨_,zp qw hx4,m+1,rfl,by omega,?_⟩;refine⟨_,zp qw hx3,m+1,rfl,by omega,?_⟩;refine zF k5 rfl qw hx3 f[m]! fun V1 q1 g1=>⟨m,rfl,by omega,?_⟩;refine zF k5 rfl q1 (by rw [Array.size_setIfInBounds];exact hx4) f[m+1]! fun V2 q2 g2=>?_;have q2:RB V2 g sp (swp f (m+1) (m)):=q2;have z2:(swp f (m+1) (m)).size=f.size:=Go.Sort.size_swp f (m+1) (m);exact⟨((m:Nat):Int),(ze (by first | omega | (dsimp only;omega))).trans (by first | omega | (dsimp only;omega)),(m,swp f (m+1) m),(cvE rfl rfl),⟨by show m<=I-1;omega,by show (swp f _ _).size=L;rw [z2];exact hzf,hRf,q2,zd gVd (zd (zt _ g) (zd g1 g2))⟩,QD m⟩
       ·have h7:¬ (1:Int)<=(k:Int):=dF h7;obtain rfl:k=0:=(by omega);have hRf:f=D2:=hRf;subst hRf;exact⟨(),(cvE rfl rfl),hzf,hrV,gV⟩
      ·have h6:¬ (2:Int)<=((I-a:Nat):Int):=dF h6;rw [Gq (by omega)] at hD2;subst hD2;exact⟨(),(cvE rfl rfl),hz1,q2s,gs⟩
     rintro _ Z ⟨hzZ,hrZ,gZ⟩;refine⟨((b-I:Nat):Int),(ze (by first | omega | (dsimp only;omega))).trans (by first | omega | (dsimp only;omega)),biE (fun h6=>?_) fun h6=>?_⟩
     ·have h6:(2:Int)<=((b-I:Nat):Int):=dT h6;rw [Gr (by omega)] at hD3;refine⟨((I+1:Nat):Int),(ze (by first | omega | (dsimp only;omega))).trans (by first | omega | (dsimp only;omega)),Nat×Array UInt8,fun s=>⟨[(0,.slice (some ⟨g,0,none⟩) L cap),(1,i64 a),(2,i64 b),(7,i64 (I:Nat)),(8,i64 (n:Nat)),(10,i64 (s.1:Nat))],[]⟩,fun s V=>(I+1<=s.1/\s.1<=b)/\s.2.size=L/\Go.Sort.shiftUp lt8 b s.1 s.2=D3/\RB V g sp s.2/\w.grownBy V (some g),fun s=>b-s.1,(I+1,D2),(cvE rfl rfl),⟨⟨UY _,by show I+1<=b;omega⟩,hzZ,hD3.symm,hrZ,gZ⟩,?_⟩;rintro⟨k,f⟩ V ⟨hk,hzf,hRf,hrV,gV⟩;dsimp only at hk hzf hRf hrV;refine biE (fun h7=>?_) fun h7=>?_
      ·have h7:(k:Int)<(b:Int):=dT h7;rw [Go.Sort.shiftUp,Gr (by omega)] at hRf;have hx3:k<f.size:=(by omega);have hx4:k-1<f.size:=(by omega);have qv:RB V.drew g sp f:=hrV;have gVd:=zd gV (zt V g);refine DrawE.ord [] [0,1,2,3,4,5,6,7,8,9,10] (by kernel_rfl) ⟨k,rfl,by omega,?_⟩;refine⟨_,zp qv hx3,((k-1:Nat):Int),(ze (by first | omega | (dsimp only;omega))).trans (by first | omega | (dsimp only;omega)),k-1,rfl,by omega,?_⟩;refine⟨_,zp qv hx4,cmo jz ?_⟩;rintro e _ ⟨rfl,rfl⟩;refine⟨Gd _ _,biE (fun h8=>?_) fun h8=>?_⟩
       ·have h8:(!lt8 f[k]! f[k-1]!)=true:=h8;rw [Gr h8] at hRf;subst hRf;exact⟨(),(cvE rfl rfl),⟨hI1,hI2⟩,hzf,hR1,qv,gVd⟩
       ·have h8:(!lt8 f[k]! f[k-1]!)=false:=h8;rw [Gq (by rw [h8];exact Kx)] at hRf;have qw:RB V.drew.drew g sp f:=hrV;refine DrawE.ord [15,17] [0,1,2,3,4,5,6,7,8,9,10,11,12,13,14,15,16,17] (by kernel_rfl) ⟨((k-1:Nat):Int),(ze (by first | omega | (dsimp only;omega))).trans (by first | omega | (dsimp only;omega)),((k-1:Nat):Int),(ze (by first | omega | (dsimp only;omega))).trans (by first | omega | (dsimp only;omega)),k-1,rfl,by omega,?_⟩;refine⟨_,zp qw hx4,k,rfl,by omega,?_⟩;refine⟨_,zp qw hx3,k,rfl,by omega,?_⟩;refine zF k5 rfl qw hx3 f[k-1]! fun V1 q1 g1=>⟨k-1,rfl,by omega,?_⟩;refine zF k5 rfl q1 (by rw [Array.size_setIfInBounds];exact hx4) f[k]! fun V2 q2 g2=>?_;have q2:RB V2 g sp (swp f (k) (k-1)):=q2;have z2:(swp f (k) (k-1)).size=f.size:=Go.Sort.size_swp f (k) (k-1);exact⟨((k+1:Nat):Int),(ze (by first | omega | (dsimp only;omega))).trans (by first | omega | (dsimp only;omega)),(k+1,swp f k (k-1)),(cvE rfl rfl),⟨⟨by show I+1<=k+1;omega,by show k+1<=b;omega⟩,by show (swp f _ _).size=L;rw [z2];exact hzf,hRf,q2,zd gVd (zd (zt _ g) (zd g1 g2))⟩,zdc (by omega)⟩
      ·have h7:¬ (k:Int)<(b:Int):=dF h7;rw [Go.Sort.shiftUp,Gq (by omega)] at hRf;subst hRf;exact⟨(),(cvE rfl rfl),⟨hI1,hI2⟩,hzf,hR1,hrV,gV⟩
     ·have h6:¬ (2:Int)<=((b-I:Nat):Int):=dF h6;rw [Gq (by omega)] at hD3;subst hD3;exact⟨(),(cvE rfl rfl),⟨hI1,hI2⟩,hzZ,hR1,hrZ,gZ⟩
  rintro _ Y ⟨⟨hI1,hI2⟩,hz3,hR3,hrY,gY⟩;exact⟨((n+1:Nat):Int),(ze (by first | omega | (dsimp only;omega))).trans (by first | omega | (dsimp only;omega)),(n+1,I,D3),(cvE rfl rfl),⟨⟨by show n+1<=5;omega,hI1,hI2⟩,hz3,hR3,hrY,gY⟩,zdc (by omega)⟩
 ·have hc:¬ (n:Int)<5:=dF hc;obtain rfl:n=5:=by omega
  have hR1:(e,false)=R:=hR1;exact fin _ _ _ hR1 hrX gX
end
abbrev zgL (w:Wd) (s:Nat) (v:Int):Prop:=w.heap[s]?=some (.cells #[.int .i64 v] 3 (0,0))
theorem zlO {w:Wd} {s:Nat} {v:Int} (h:zgL w s v):w.cell? ⟨s,0,none⟩=some (.int .i64 v):=zc (za h) (i:=0) rfl
section
variable {w:Wd} {g cap L a b s:Nat} {v:Int} {sp:List Value} {d:Array UInt8}
theorem zdZ {w2:Wd} (h:RB w g sp d) (hg:w.grownBy w2 (some s)) (hs:s≠g):RB w2 g sp d:=by
 refine RowS.same h (hg.block g (RowS.lt h) fun e=>hs ?_)
 cases e;rfl
theorem zf1 (hr:RB w g sp d) (hL:d.size=L) (hb:zgL w s v) (hs:s≠g) (ha:a<L) (hbL:b<L) (hl:L<=1000000) :
  Calls PG 168 #[.slice (some ⟨g,0,none⟩) L cap,i64 a,i64 b,At0 s] w fun e w'=>(∃ x y:Nat,e = .returned (.tuple #[i64 x,i64 y])/\((x=a/\y=b)\/(x=b/\y=a)))/\(∃ u,zgL w' s u)/\w.grownBy w' (some s):=by
 refine zI 28 [.slice (some ⟨g,0,none⟩) L cap,i64 a,i64 b,At0 s] Tryz.func168 ?_;have qd:RB w.drew g sp d:=hr;have hx1:a<d.size:=by omega
 have hx2:b<d.size:=by omega
 have hbd:zgL w.drew s v:=hb;refine DrawE.ord [] [0,1,2,3,4,5,6,7,8] (by kernel_rfl) ⟨b,rfl,by omega,?_⟩;refine⟨_,zp qd hx2,a,rfl,by omega,?_⟩;refine⟨_,zp qd hx1,cmo jz ?_⟩;rintro e _ ⟨rfl,rfl⟩;refine⟨Gd _ _,biE (fun h=>?_) fun h=>?_⟩
 ·exact⟨_,zlO hbd,_,rfl,qS k3 rfl hbd (o:=0) (by show 0<1;decide) (v := .int .i64 (IntKind.i64.wrap (v+1))) rfl rfl fun Y fY gY sY=>⟨⟨b,a,rfl,.inr ⟨rfl,rfl⟩⟩,⟨_,fY⟩,zd (zt w s) gY⟩⟩
 ·exact⟨⟨a,b,rfl,.inl ⟨rfl,rfl⟩⟩,⟨_,hbd⟩,zt w s⟩
theorem zjA {c:Nat} (hr:RB w g sp d) (hL:d.size=L) (hb:zgL w s v) (hs:s≠g) (ha:a<L) (hbL:b<L) (hcL:c<L) (hl:L<=1000000) :
  Calls PG 159 #[.slice (some ⟨g,0,none⟩) L cap,i64 a,i64 b,i64 c,At0 s] w fun e w'=>(∃ x:Nat,e = .returned (i64 x)/\(x=a\/x=b\/x=c))/\(∃ u,zgL w' s u)/\w.grownBy w' (some s):=by
 refine zI 36 [.slice (some ⟨g,0,none⟩) L cap,i64 a,i64 b,i64 c,At0 s] Tryz.func159 ?_;refine cmo (zf1 hr hL hb hs ha hbL hl) ?_;rintro e X ⟨⟨x,y,rfl,hxy⟩,⟨u,bX⟩,gX⟩;have rX:=zdZ hr gX hs;refine cmo (zf1 rX hL bX hs (a:=y) (b:=c) (by omega) hcL hl) ?_;rintro e Y ⟨⟨x2,y2,rfl,hxy2⟩,⟨u2,bY⟩,gY⟩;have rY:=zdZ rX gY hs;refine cmo (zf1 rY hL bY hs (a:=x) (b:=x2) (by omega) (by omega) hl) ?_;rintro e Z ⟨⟨x3,y3,rfl,hxy3⟩,bZ,gZ⟩;exact⟨⟨y3,rfl,by omega⟩,bZ,zd gX (zd gY gZ)⟩
theorem zge (hr:RB w g sp d) (hL:d.size=L) (hb:zgL w s v) (hs:s≠g) (ha:1<=a) (haL:a+1<L) (hl:L<=1000000) :
  Calls PG 158 #[.slice (some ⟨g,0,none⟩) L cap,i64 a,At0 s] w fun e w'=>(∃ x:Nat,e = .returned (i64 x)/\(x=a-1\/x=a\/x=a+1))/\(∃ u,zgL w' s u)/\w.grownBy w' (some s):=by
 refine zI 15 [.slice (some ⟨g,0,none⟩) L cap,i64 a,At0 s] Tryz.func158 ?_;refine⟨((a-1:Nat):Int),(ze (by omega)).trans (by omega),nxI (by omega) (cmo (zjA hr hL hb hs (a:=a-1) (b:=a) (c:=a+1) (by omega) (by omega) haL hl) ?_)⟩;rintro e X ⟨⟨x,rfl,hx⟩,hb,hg⟩;exact⟨⟨x,rfl,hx⟩,hb,hg⟩
theorem zic (n k:Nat) (h:n<=1000000):IntKind.i64.wrap ((n:Int).tdiv (k:Int))=((n/k:Nat):Int):=by
 have e:(n:Int).tdiv (k:Int)=((n/k:Nat):Int):=rfl;have:n/k<=n:=Nat.div_le_self n k;rw [e];generalize n/k=q at this ⊢;exact ze (by omega)
theorem zsz {a b n q L:Nat} (hn:n=b-a) (hq:4*q<=n) (h2:2<=q) (hb:b<=L):(1<=a+q*1/\a+q*1+1<L)/\(1<=a+q*2/\a+q*2+1<L)/\(1<=a+q*3/\a+q*3+1<L):=by omega
theorem zmB {a b n q x:Nat} (hn:n=b-a) (hq:4*q<=n) (h2:2<=q) (k:Nat) (hk:k=1\/k=2\/k=3) (hx:x=a+q*k-1\/x=a+q*k\/x=a+q*k+1):a<=x/\x<b:=by
 rcases hk with rfl | rfl | rfl <;> omega
theorem zpu (hr:RB w g sp d) (hL:d.size=L) (hab:a<b) (hbL:b<=L) (hl:L<=1000000) :
  Calls PG 140 #[.slice (some ⟨g,0,none⟩) L cap,i64 a,i64 b] w fun e w'=>(∃ (p:Nat) (h:Int),e = .returned (.tuple #[i64 p,.int .i64 h])/\a<=p/\p<b)/\RB w' g sp d/\w.grownBy w' (some g):=by
 refine qX 57 [.slice (some ⟨g,0,none⟩) L cap,i64 a,i64 b] (.s .p (.s .p (.s .p (.s .p (.s .p (.c .p (.c (.s .p (.d (.c .p .p) .p)) .p))))))) Tryz.func140 ?_;obtain⟨n,hn⟩:=nm (b-a);obtain⟨q,hq⟩:=nm (n/4);have hn1:IntKind.i64.wrap (((b:Nat):Int)-((a:Nat):Int))=(n:Int):=(ze (by omega)).trans (by omega);have hq4:IntKind.i64.wrap ((n:Int).tdiv 4)=(q:Int):=by rw [hq];exact zic n 4 (by omega)
 have hqn:4*q<=n:=by omega
 refine⟨(n:Int),hn1,?_⟩;obtain⟨s,hsz⟩:=nm (w.heap.size);have bS:zgL (w.alloc (.cells #[.int .i64 0] 3)) s 0:=by rw [hsz];exact zz w _
 have hbw:Bw w (w.alloc (.cells #[.int .i64 0] 3)):=zba w _;have hgs:s≠g:=fun e=>by have:=RowS.lt hr;omega
 have rS:RB (w.alloc (.cells #[.int .i64 0] 3)) g sp d:=RowS.below hr hbw;subst hsz;refine⟨by decide,(q:Int),hq4,((q*1:Nat):Int),(ze (by omega)).trans (by omega),((a+q*1:Nat):Int),(ze (by omega)).trans (by omega),by decide,(q:Int),hq4,((q*2:Nat):Int),(ze (by omega)).trans (by omega),((a+q*2:Nat):Int),(ze (by omega)).trans (by omega),Unit,fun _=>⟨[(0,.slice (some ⟨g,0,none⟩) L cap),(1,i64 a),(2,i64 b),(8,i64 n),(9,At0 w.heap.size),(10,i64 (a+q*1:Nat)),(11,i64 (a+q*2:Nat)),(12,i64 (a+q*3:Nat))],[]⟩,fun _ X=>w.alloc (.cells #[.int .i64 0] 3)=X,?_,?_⟩
 ·exact⟨by decide,(q:Int),hq4,((q*3:Nat):Int),(ze (by omega)).trans (by omega),((a+q*3:Nat):Int),(ze (by omega)).trans (by omega),(),(cvE rfl rfl),rfl⟩
 rintro _ _ rfl;have keep:∀ Y,(w.alloc (.cells #[.int .i64 0] 3)).grownBy Y (some w.heap.size)->RB Y g sp d/\w.grownBy Y (some g):=fun Y gY =>
  ⟨zdZ rS gY hgs,zf (hbw.trans (zh gY hbw.size (by omega)))⟩
 refine⟨Nat×Int,fun t=>⟨[(0,.slice (some ⟨g,0,none⟩) L cap),(1,i64 a),(2,i64 b),(9,At0 w.heap.size),(11,i64 (t.1:Nat))],[]⟩,fun t X=>(a<=t.1/\t.1<b)/\zgL X w.heap.size t.2/\(w.alloc (.cells #[.int .i64 0] 3)).grownBy X (some w.heap.size),?_,?_⟩
 ·refine biE (fun hc=>?_) fun hc=>?_
  ·have hc:(8:Int)<=(n:Int):=dT hc;refine⟨(Nat×Nat×Nat)×Int,fun t=>⟨[(0,.slice (some ⟨g,0,none⟩) L cap),(1,i64 a),(2,i64 b),(9,At0 w.heap.size),(10,i64 (t.1.1:Nat)),(11,i64 (t.1.2.1:Nat)),(12,i64 (t.1.2.2:Nat))],[]⟩,fun t X=>((a<=t.1.1/\t.1.1<b)/\(a<=t.1.2.1/\t.1.2.1<b)/\(a<=t.1.2.2/\t.1.2.2<b))/\zgL X w.heap.size t.2/\(w.alloc (.cells #[.int .i64 0] 3)).grownBy X (some w.heap.size),?_,?_⟩
   ·refine biE (fun h5=>?_) fun h5=>?_
    ·have h2q:2<=q:=(by omega);obtain⟨⟨m1,m2⟩,⟨m3,m4⟩,m5,m6⟩:=zsz hn hqn h2q hbL;have c1:=zge (cap:=cap) rS hL bS hgs (a:=a+q*1) m1 m2 hl;refine cmo c1 ?_;rintro e X ⟨⟨x,rfl,hx⟩,⟨u,bX⟩,gX⟩;have c2:=zge (cap:=cap) (keep X gX).1 hL bX hgs (a:=a+q*2) m3 m4 hl;refine cmo c2 ?_;rintro e Y ⟨⟨y,rfl,hy⟩,⟨u2,bY⟩,gY⟩;have gY':=zd gX gY;have c3:=zge (cap:=cap) (keep Y gY').1 hL bY hgs (a:=a+q*3) m5 m6 hl;refine cmo c3 ?_;rintro e Z ⟨⟨z,rfl,hz⟩,⟨u3,bZ⟩,gZ⟩;exact⟨((x,y,z),u3),(cvE rfl rfl),⟨zmB hn hqn h2q 1 (.inl rfl) hx,zmB hn hqn h2q 2 (.inr (.inl rfl)) hy,zmB hn hqn h2q 3 (.inr (.inr rfl)) hz⟩,bZ,zd gY' gZ⟩
    ·have h2q:2<=q:=(by omega);exact⟨((a+q*1,a+q*2,a+q*3),0),(cvE rfl rfl),⟨zmB hn hqn h2q 1 (.inl rfl) (.inr (.inl rfl)),zmB hn hqn h2q 2 (.inr (.inl rfl)) (.inr (.inl rfl)),zmB hn hqn h2q 3 (.inr (.inr rfl)) (.inr (.inl rfl))⟩,bS,z8 _ _⟩
   ·rintro⟨⟨x,y,z⟩,u⟩ X ⟨⟨hx,hy,hz⟩,bX,gX⟩;dsimp only at hx hy hz bX gX;refine cmo (zjA (keep X gX).1 hL bX hgs (a:=x) (b:=y) (c:=z) (by omega) (by omega) (by omega) hl) ?_;rintro e Y ⟨⟨m,rfl,hm⟩,⟨u2,bY⟩,gY⟩;refine⟨(m,u2),(cvE rfl rfl),⟨?_,?_⟩,bY,zd gX gY⟩ <;> dsimp only <;> omega
  ·refine⟨(a+q*2,0),(cvE rfl rfl),⟨?_,?_⟩,bS,z8 _ _⟩ <;> dsimp only <;> omega
 rintro⟨p,u⟩ X ⟨hp,bX,gX⟩;dsimp only at hp bX gX;obtain⟨k1,k2⟩:=keep X gX;refine⟨_,zlO bX,biE (fun h=>?_) fun h=>?_⟩
 ·exact⟨⟨p,1,rfl,hp⟩,k1,k2⟩
 ·refine biE (fun h=>?_) fun h=>?_
  ·exact⟨⟨p,2,rfl,hp⟩,k1,k2⟩
  ·exact⟨⟨p,0,rfl,hp⟩,k1,k2⟩
end
theorem zlL {a:Nat} (h:a<2^64):(BitVec.ofInt 64 (a:Int)).toNat=a:=by
 rw [BitVec.ofInt_natCast,BitVec.toNat_ofNat,QF h]
theorem zsi {a b:Nat} (ha:a<2^64) (hb:b<2^64):IntKind.u64.wrap ((BitVec.ofInt IntKind.u64.bits (a:Int)&&&BitVec.ofInt IntKind.u64.bits (b:Int)).toNat:Int)=((a&&&b:Nat):Int):=by
 show IntKind.u64.wrap ((BitVec.ofInt 64 (a:Int)&&&BitVec.ofInt 64 (b:Int)).toNat:Int)=_;rw [Qj,zlL ha,zlL hb];have:a&&&b<=a:=Ua;exact zav (by omega)
theorem exU {x:Int} {K:Int->Prop} (k:∀ r:Nat,r<2^64->K (r:Int)):∃ r,IntKind.u64.wrap x=r/\K r:=by
 have h:0<=IntKind.u64.wrap x/\IntKind.u64.wrap x<18446744073709551616:=by
  unfold IntKind.wrap;simp only [IntKind.bits,IntKind.signed,Ul,Kw,Gm];omega
 obtain⟨r,hr⟩:=Int.eq_ofNat_of_zero_le h.1;refine⟨_,rfl,?_⟩;rw [hr];exact k r (by rw [hr] at h;omega)
def zrY (l:List UInt8):Bool:=(List.range l.length).all fun m=>match l[m]? with
 | some u=>decide (u.toNat<=8)&&(decide (m=0)||decide (2^u.toNat<=2*m))
 | none=>false
theorem znu {l:List UInt8} (hs:zrY l=true) {n:Nat} {u:UInt8} (h:l[n]?=some u):u.toNat<=8/\(1<=n->2^u.toNat<=2*n):=by
 have:=Qm.1 hs n (Uq.2 (Js.1 h).1);rw [h] at this;simp only [bAT,QJ,dE] at this;exact⟨this.1,fun h1=>this.2.resolve_left (by omega)⟩
theorem znz {s:ByteArray} {n:Nat} {K:UInt8->Prop} (h:n<s.size) (k:∀ u,s.data.toList[n]?=some u->K u):∃ u,s.data.toList[n]?=some u/\K u:=by
 have h:n<s.data.toList.length:=by simpa using h
 exact⟨_,gE h,k _ (gE h)⟩
section
variable {w:Wd} {g cap L a b s:Nat} {v:Int} {sp:List Value} {d:Array UInt8}
theorem zod {n:Nat} (h:n<65536):Calls PG 147 #[.int .u64 (n:Nat)] w fun e w'=>(∃ m:Nat,e = .returned (i64 m)/\m<=16/\(1<=n->2^m<=2*n))/\w=w':=by
 refine zI 25 [.int .u64 (n:Nat)] Tryz.func147 ?_;refine brN (Uj (by omega)) (brN (Uj (by omega)) (biE (fun hc=>?_) fun hc=>?_))
 ·have hc:(256:Int)<=(n:Int):=dT hc;obtain⟨q,hq⟩:=nm (n/256);have hq1:1<=q/\q<256/\q*256<=n:=by omega
  refine⟨by decide,(q:Int),by
   show (n:Int).fdiv (2^(min (Int.toNat (8:Int)) IntKind.u64.bits))=_;rw [show min (Int.toNat (8:Int)) IntKind.u64.bits=8 from rfl,Jm _ (by decide)];omega,?_⟩
  refine⟨(8:Int),by decide,?_⟩;refine⟨(q:Int),zdP (by omega),q,rfl,zin hq1.2.1 (by kernel_rfl),znz (zin hq1.2.1 (by kernel_rfl)) fun u hu=>?_⟩;obtain⟨t1,t2⟩:=znu (by kernel_rfl) hu;refine⟨(u.toNat:Int),ze (by omega),((8+u.toNat:Nat):Int),(ze (by omega)).trans (by omega),⟨8+u.toNat,rfl,by omega,fun _=>?_⟩,rfl⟩;have:=t2 hq1.1;rw [Nat.pow_add];omega
 ·have hc:¬ (256:Int)<=(n:Int):=dF hc;have hn:n<256:=by omega
  refine⟨(n:Nat),zdP (by omega),n,rfl,zin hn (by kernel_rfl),znz (zin hn (by kernel_rfl)) fun u hu=>?_⟩;obtain⟨t1,t2⟩:=znu (by kernel_rfl) hu;exact⟨(u.toNat:Int),ze (by omega),((0+u.toNat:Nat):Int),(ze (by omega)).trans (by omega),⟨0+u.toNat,rfl,by omega,fun h1=>by rw [UT];exact t2 h1⟩,rfl⟩
theorem zoc {n:Nat} (h:n<65536):Calls PG 103 #[.int .u64 (n:Nat)] w fun e w'=>(∃ m:Nat,e = .returned (i64 m)/\m<=16/\(1<=n->2^m<=2*n))/\w=w':=by
 refine zI 8 [.int .u64 (n:Nat)] Tryz.func103 ?_;refine brF (cmo (zod h) ?_);rintro e _ ⟨⟨m,rfl,h1,h2⟩,rfl⟩;exact⟨⟨m,rfl,h1,h2⟩,rfl⟩
theorem zmI {n:Nat} (h:n<65536) (h1:1<=n):Calls PG 156 #[i64 n] w fun e w'=>(∃ m:Nat,e = .returned (.int .u64 (m:Nat))/\1<=m/\m<=2*n)/\w=w':=by
 refine zI 7 [i64 n] Tryz.func156 ?_;refine⟨(n:Nat),zav (by omega),cmo (zoc h) ?_⟩;rintro e _ ⟨⟨m,rfl,h2,h3⟩,rfl⟩;have hp:1<=2^m:=Nat.one_le_two_pow;have:=h3 h1;refine⟨by omega,((2^m:Nat):Int),?_,?_⟩
 ·rw [KO,show min m IntKind.u64.bits=m from Uc (by show m<=64;omega),Int.one_mul];have e:((2:Int)^m)=((2^m:Nat):Int):=by rw [Int.natCast_pow];rfl
  rw [e];exact zav (by omega)
 ·exact⟨⟨2^m,rfl,hp,this⟩,rfl⟩
abbrev zg3 (w:Wd) (s:Nat) (v:Nat):Prop:=w.heap[s]?=some (.cells #[.int .u64 (v:Nat)] 234 (0,0))
theorem zck {w:Wd} {s v:Nat} (h:zg3 w s v):w.cell? ⟨s,0,none⟩=some (.int .u64 (v:Nat)):=zc (za h) (i:=0) rfl
theorem zrS {v:Nat} (hb:zg3 w s v):Calls PG 157 #[At0 s] w fun e w'=>(∃ r:Nat,e = .returned (.int .u64 (r:Nat))/\r<2^64/\zg3 w' s r)/\w.grownBy w' (some s):=by
 refine zI 33 [At0 s] Tryz.func157 ?_;have b0:zg3 w.drew s v:=hb;refine DrawE.ord [9] [0,1,2,3,4,5,6,7,8,9] (by kernel_rfl) ⟨_,zck b0,_,zck b0,by decide,?_⟩;refine exU fun r1 _=>exU fun r2 _=>qS zpG rfl b0 (o:=0) (by show 0<1;decide) (v := .int .u64 (r2:Nat)) rfl rfl fun Y fY gY sY=>?_;have b1:zg3 Y.drew s r2:=fY;refine DrawE.ord [9] [0,1,2,3,4,5,6,7,8,9] (by kernel_rfl) ⟨_,zck b1,_,zck b1,by decide,_,rfl,?_⟩;refine exU fun r4 _=>qS zpG rfl b1 (o:=0) (by show 0<1;decide) (v := .int .u64 (r4:Nat)) rfl rfl fun Z fZ gZ sZ=>?_;have b2:zg3 Z.drew s r4:=fZ;refine DrawE.ord [9] [0,1,2,3,4,5,6,7,8,9] (by kernel_rfl) ⟨_,zck b2,_,zck b2,by decide,?_⟩;refine exU fun r5 _=>exU fun r6 h6=>qS zpG rfl b2 (o:=0) (by show 0<1;decide) (v := .int .u64 (r6:Nat)) rfl rfl fun V fV gV sV=>?_;have b3:zg3 V s r6:=fV;exact⟨_,zck b3,⟨r6,rfl,h6,b3⟩,zd (zt w s) (zd gY (zd (zt _ s) (zd gZ (zd (zt _ s) gV))))⟩
theorem zqn (hr:RB w g sp d) (hL:d.size=L) (hab:a+8<=b) (hbL:b<=L) (hl:L<=60000) :
  Calls PG 139 #[.slice (some ⟨g,0,none⟩) L cap,i64 a,i64 b] w fun e w'=>e = .returned (.tuple #[])/\(∃ d',Go.Sort.PermIn a b d d'/\RB w' g sp d')/\w.grownBy w' (some g):=by
 refine zI 65 [.slice (some ⟨g,0,none⟩) L cap,i64 a,i64 b] Tryz.func139 ?_;obtain⟨n,hn⟩:=nm (b-a);obtain⟨q,hq⟩:=nm (n/4);have hn1:IntKind.i64.wrap (((b:Nat):Int)-((a:Nat):Int))=(n:Int):=(ze (by omega)).trans (by omega);have hq4:IntKind.i64.wrap ((n:Int).tdiv 4)=(q:Int):=by rw [hq];exact zic n 4 (by omega)
 have hq2:2<=q/\4*q<=n:=by omega
 refine⟨(n:Int),hn1,brE (Uu (by omega)) ⟨(n:Nat),zav (by omega),?_⟩⟩;obtain⟨s,hsz⟩:=nm (w.heap.size);have hgs:s≠g:=fun e=>by have:=RowS.lt hr;omega
 have hbw:Bw w (w.alloc (.cells #[.int .u64 0] 234)):=zba w _;refine qS zpG rfl (zz w (.cells #[.int .u64 0] 234)) (o:=0) (by show 0<1;decide) (v := .int .u64 (n:Nat)) rfl rfl fun X fX gX sX=>?_;rw [<- hsz] at fX gX;have bX:zg3 X s n:=fX;have hwX:Bw w X:=hbw.trans (zh gX hbw.size (by omega));have rX:RB X g sp d:=RowS.below hr hwX;refine cmo (zmI (n:=n) (by omega) (by omega)) ?_;rintro e _ ⟨⟨md,rfl,hm1,hm2⟩,rfl⟩;refine⟨by decide,(q:Int),hq4,((q*2:Nat):Int),(ze (by omega)).trans (by omega),((a+q*2:Nat):Int),(ze (by omega)).trans (by omega),((a+q*2-1:Nat):Int),(ze (by omega)).trans (by omega),?_⟩;refine⟨Nat×Nat×Array UInt8,fun t=>⟨[(0,.slice (some ⟨g,0,none⟩) L cap),(1,i64 a),(2,i64 b),(6,i64 n),(7,At0 s),(8,.int .u64 (md:Nat)),(9,i64 (t.1:Nat))],[]⟩,
  fun t Y=>(a<=t.1/\t.1<=a+q*2+2)/\(Go.Sort.PermIn a b d t.2.2/\t.2.2.size=L)/\zg3 Y s t.2.1/\RB Y g sp t.2.2/\w.grownBy Y (some g)/\w.heap.size<=s,fun t=>a+q*2+2-t.1,(a+q*2-1,n,d),
  ⟨.cons rfl (.cons rfl (.cons rfl (.cons rfl (.cons (by rw [hsz];rfl) (.cons rfl (.cons rfl .nil)))))),rfl⟩,⟨⟨by dsimp only;omega,by dsimp only;omega⟩,⟨Go.Sort.permIn_refl _ _ _,hL⟩,bX,rX,zf hwX,by omega⟩,?_⟩
 rintro⟨i,v,e⟩ Y ⟨⟨hi1,hi2⟩,⟨hP,hze⟩,bY,rY,gY,hws⟩;dsimp only at hi1 hi2 hP hze bY rY gY;refine⟨by decide,(q:Int),hq4,((q*2:Nat):Int),(ze (by omega)).trans (by omega),((a+q*2:Nat):Int),(ze (by omega)).trans (by omega),((a+q*2+1:Nat):Int),(ze (by omega)).trans (by omega),biE (fun hc=>?_) fun hc=>?_⟩
 ·have hc:(i:Int)<=((a+q*2+1:Nat):Int):=dT hc;refine cmo (zrS bY) ?_;rintro e' Z ⟨⟨r,rfl,hr64,bZ⟩,gZ⟩;have rZ:RB Z g sp e:=zdZ rY gZ hgs;have gwZ:w.grownBy Z (some g):=⟨gZ.os.trans gY.os,gZ.tape.trans gY.tape,gZ.output.trans gY.output,UO gY.size gZ.size,fun k hk hn=>(gZ.block k (nL hk gY.size) (fun h=>by cases h;omega)).trans (gY.block k hk hn)⟩;refine⟨((md-1:Nat):Int),(zav (by omega)).trans (by omega),?_⟩;have hand:r&&&(md-1)<=md-1:=QA;refine⟨((r&&&(md-1):Nat):Int),zsi hr64 (by omega),?_⟩;obtain⟨o,ho⟩:=nm (r&&&(md-1));rw [<- ho] at hand ⊢;refine⟨(o:Int),ze (by omega),?_⟩;have fin:∀ o':Nat,o'<n->∀ V2,RB V2 g sp (swp e i (a+o'))->Z.grownBy V2 (some g)->(a<=i+1/\i+1<=a+q*2+2)/\(Go.Sort.PermIn a b d (swp e i (a+o'))/\(swp e i (a+o')).size=L)/\zg3 V2 s r/\RB V2 g sp (swp e i (a+o'))/\w.grownBy V2 (some g)/\w.heap.size<=s:=fun o' ho' V2 q2 g2=>by
   have hp:=Go.Sort.swp_permIn e a b i (a+o') hi1 (by omega) (by omega) (by omega) (by omega);exact⟨⟨by omega,by omega⟩,⟨Go.Sort.permIn_trans _ _ _ a b hP hp,by rw [Go.Sort.size_swp];exact hze⟩,(g2.block s (hlt bZ) (fun h=>by cases h;exact hgs rfl)).trans bZ,q2,zd gwZ g2,hws⟩
  have hx1:i<e.size:=by omega
  refine biE (fun h8=>?_) fun h8=>?_
  ·have h8:(n:Int)<=(o:Int):=dT h8;refine⟨((o-n:Nat):Int),(ze (by omega)).trans (by omega),?_⟩;have hx2:a+(o-n)<e.size:=by omega
   have qd:RB Z.drew g sp e:=rZ;refine DrawE.ord [17,19] [0,1,2,3,4,5,6,7,8,9,10,11,12,13,14,15,16,17,18,19] (by kernel_rfl) ⟨((a+(o-n):Nat):Int),(ze (by omega)).trans (by omega),((a+(o-n):Nat):Int),(ze (by omega)).trans (by omega),a+(o-n),rfl,by omega,?_⟩;refine⟨_,zp qd hx2,i,rfl,by omega,?_⟩;refine⟨_,zp qd hx1,i,rfl,by omega,?_⟩;refine zF k5 rfl qd hx1 e[a+(o-n)]! fun V1 q1 g1=>⟨a+(o-n),rfl,by omega,?_⟩;exact zF k5 rfl q1 (by rw [Array.size_setIfInBounds];exact hx2) e[i]! fun V2 q2 g2=>nxI (by omega) ⟨(i+1,r,swp e i (a+(o-n))),(cvE rfl rfl),fin _ (by omega) V2 q2 (zd (zt _ g) (zd g1 g2)),by dsimp only;omega⟩
  ·have h8:¬ (n:Int)<=(o:Int):=dF h8;have hx2:a+o<e.size:=by omega
   have qd:RB Z.drew g sp e:=rZ;refine DrawE.ord [17,19] [0,1,2,3,4,5,6,7,8,9,10,11,12,13,14,15,16,17,18,19] (by kernel_rfl) ⟨((a+o:Nat):Int),(ze (by omega)).trans (by omega),((a+o:Nat):Int),(ze (by omega)).trans (by omega),a+o,rfl,by omega,?_⟩;refine⟨_,zp qd hx2,i,rfl,by omega,?_⟩;refine⟨_,zp qd hx1,i,rfl,by omega,?_⟩;refine zF k5 rfl qd hx1 e[a+o]! fun V1 q1 g1=>⟨a+o,rfl,by omega,?_⟩;exact zF k5 rfl q1 (by rw [Array.size_setIfInBounds];exact hx2) e[i]! fun V2 q2 g2=>nxI (by omega) ⟨(i+1,r,swp e i (a+o)),(cvE rfl rfl),fin _ (by omega) V2 q2 (zd (zt _ g) (zd g1 g2)),by dsimp only;omega⟩
 ·exact⟨rfl,⟨e,hP,rY⟩,gY⟩
end
end Go.Proofs.YtpalcnbhkigagaaGreatDoor
namespace Go.Proofs.YtpalcnbhkigagaaGreatDoor
open Go.Vc Go.RowKit Go.Sei
open Go.Sort (swp PermIn SortedIn permIn_refl permIn_trans)
section
variable {g cap L:Nat} {sp:List Value}
theorem zq0 (hl:L<=60000):∀ (m a0 b0:Nat) (lim0:Int) (d0:Array UInt8) (w:Wd),b0-a0<=m->RB w g sp d0->d0.size=L->a0<=b0->b0<=L->Go.Sort.Below lt8 a0 b0 d0 ->
  Calls PG 102 #[.slice (some ⟨g,0,none⟩) L cap,i64 a0,i64 b0,.int .i64 lim0] w fun e w'=>e = .returned (.tuple #[])/\∃ d',PermIn a0 b0 d0 d'/\SortedIn lt8 a0 b0 d'/\RB w' g sp d'/\w.grownBy w' (some g):=by
 intro m
 induction m using Nat.strongRecOn with
 | _ m ih =>
 intro a0 b0 lim0 d0 w hm hr hL hab0 hb0 hB0;refine qX 134 [.slice (some ⟨g,0,none⟩) L cap,i64 a0,i64 b0,.int .i64 lim0] (.s .p (.s .p (.b (.l (.b (.c .p (.s .p (.s .p (.c .p (.s .p (.c .p (.c .p (.c .p .p))))))))))))) Tryz.func102 ?_;refine⟨Nat×Nat×Int×Bool×Bool×Array UInt8,fun t=>⟨[(0,.slice (some ⟨g,0,none⟩) L cap),(1,i64 (t.1:Nat)),(2,i64 (t.2.1:Nat)),(3,.int .i64 t.2.2.1),(8,.bool t.2.2.2.1),(9,.bool t.2.2.2.2.1)],[]⟩,
  fun t X=>(t.1<=t.2.1/\t.2.1<=L/\t.2.1-t.1<=m)/\t.2.2.2.2.2.size=L/\Go.Sort.Below lt8 t.1 t.2.1 t.2.2.2.2.2/\(∀ R,PermIn t.1 t.2.1 t.2.2.2.2.2 R->SortedIn lt8 t.1 t.2.1 R->PermIn a0 b0 d0 R/\SortedIn lt8 a0 b0 R)/\RB X g sp t.2.2.2.2.2/\w.grownBy X (some g),fun t=>t.2.1-t.1,(a0,b0,lim0,true,true,d0),
  (cvE rfl rfl),⟨⟨hab0,hb0,hm⟩,hL,hB0,fun R h1 h2=>⟨h1,h2⟩,hr,z8 _ _⟩,?_⟩
 rintro⟨a,b,lim,wb,wp,d⟩ X ⟨⟨hab,hb,hbm⟩,hz,hB,hC,rX,gX⟩;dsimp only at hab hb hbm hz hB hC rX gX;have fin:∀ Z R,PermIn a b d R->SortedIn lt8 a b R->RB Z g sp R->w.grownBy Z (some g)->∃ d',PermIn a0 b0 d0 d'/\SortedIn lt8 a0 b0 d'/\RB Z g sp d'/\w.grownBy Z (some g):=fun Z R h1 h2 q gz=>⟨R,(hC R h1 h2).1,(hC R h1 h2).2,q,gz⟩;refine⟨Unit,fun _=>⟨[(0,.slice (some ⟨g,0,none⟩) L cap),(1,i64 (a:Nat)),(2,i64 (b:Nat)),(3,.int .i64 lim),(8,.bool wb),(9,.bool wp),(10,i64 (b-a:Nat))],[]⟩,fun _ Y=>X=Y,?_,?_⟩
 ·exact⟨((b-a:Nat):Int),(ze (by first | omega | (dsimp only;omega))).trans (by first | omega | (dsimp only;omega)),(),(cvE rfl rfl),rfl⟩
 rintro _ _ rfl;refine biE (fun h12=>?_) fun h12=>?_
 ·have h12:((b-a:Nat):Int)<=12:=dT h12;refine cmo (zrc rX hz hab hb (by omega)) ?_;rintro e Y ⟨rfl,rY,gY⟩;obtain⟨p1,p2⟩:=Go.Sort.insertionSort_holds znv d a b hab (by omega);exact⟨rfl,fin Y _ p1 p2 rY (zd gX gY)⟩
 have h12:¬ ((b-a:Nat):Int)<=12:=dF h12;have hlen:12<b-a:=by omega
 refine biE (fun h0=>?_) fun h0=>?_
 ·refine cmo (zpM rX hz (by omega) hb (by omega)) ?_;rintro e Y ⟨rfl,rY,gY⟩;obtain⟨p1,p2⟩:=Go.Sort.heapSort_holds znv d a b hab (by omega);exact⟨rfl,fin Y _ p1 p2 rY (zd gX gY)⟩
 clear h0;refine⟨Int×Array UInt8,fun t=>⟨[(0,.slice (some ⟨g,0,none⟩) L cap),(1,i64 (a:Nat)),(2,i64 (b:Nat)),(3,.int .i64 t.1),(8,.bool wb),(9,.bool wp),(10,i64 (b-a:Nat))],[]⟩,fun t Y=>PermIn a b d t.2/\RB Y g sp t.2/\w.grownBy Y (some g),?_,?_⟩
 ·refine biE (fun h=>?_) fun h=>?_
  ·refine cmo (zqn rX hz (by omega) hb hl) ?_;rintro e Y ⟨rfl,⟨d1,p1,rY⟩,gY⟩;exact⟨_,rfl,(IntKind.i64.wrap (lim-1),d1),(cvE rfl rfl),p1,rY,zd gX gY⟩
  ·exact⟨(lim,d),(cvE rfl rfl),permIn_refl _ _ _,rX,gX⟩
 rintro⟨lim1,d1⟩ Y ⟨p1,rY,gY⟩;dsimp only at p1 rY gY;have hz1:d1.size=L:=by rw [p1.1];exact hz
 refine cmo (zpu rY hz1 (by omega) hb (by omega)) ?_;rintro e Z ⟨⟨pv,hint,rfl,hp1,hp2⟩,rZ,gZ⟩;have gwZ:=zd gY gZ;refine⟨Nat×Int×Array UInt8,fun t=>⟨[(0,.slice (some ⟨g,0,none⟩) L cap),(1,i64 (a:Nat)),(2,i64 (b:Nat)),(3,.int .i64 lim1),(8,.bool wb),(9,.bool wp),(10,i64 (b-a:Nat)),(11,i64 (t.1:Nat)),(12,.int .i64 t.2.1)],[]⟩,fun t V=>(a<=t.1/\t.1<b)/\PermIn a b d t.2.2/\RB V g sp t.2.2/\w.grownBy V (some g),?_,?_⟩
 ·refine biE (fun h=>?_) fun h=>?_
  ·refine cmo (zqW rZ hz1 (by omega) hb (by omega)) ?_;rintro e V ⟨rfl,rV,gV⟩;exact⟨((b-1:Nat):Int),(ze (by omega)).trans (by omega),((pv-a:Nat):Int),(ze (by omega)).trans (by omega),((b-1-(pv-a):Nat):Int),(ze (by omega)).trans (by omega),(b-1-(pv-a),1,Go.Sort.reverseRange d1 a b),(cvE rfl rfl),⟨by dsimp only;omega,by dsimp only;omega⟩,permIn_trans _ _ _ a b p1 (Go.Sort.reverseRange_holds d1 a b hab (by omega)),rV,zd gwZ gV⟩
  ·exact⟨(pv,hint,d1),(cvE rfl rfl),⟨hp1,hp2⟩,p1,rZ,gwZ⟩
 clear hp1 hp2 rZ gZ rY gY p1 hz1 gwZ;rintro⟨pv,hint,d2⟩ V ⟨⟨hp1,hp2⟩,p2,rV,gV⟩;dsimp only at hp1 hp2 p2 rV gV;have hz2:d2.size=L:=by rw [p2.1];exact hz
 have hB2:Go.Sort.Below lt8 a b d2:=hB.perm (by omega) p2;refine⟨Array UInt8,fun t=>⟨[(0,.slice (some ⟨g,0,none⟩) L cap),(1,i64 (a:Nat)),(2,i64 (b:Nat)),(3,.int .i64 lim1),(8,.bool wb),(9,.bool wp),(10,i64 (b-a:Nat)),(11,i64 (pv:Nat))],[]⟩,fun t U=>PermIn a b d t/\RB U g sp t/\w.grownBy U (some g),?_,?_⟩
 ·have skipped:∀ (E:Env),Cov E ⟨[(0,.slice (some ⟨g,0,none⟩) L cap),(1,i64 (a:Nat)),(2,i64 (b:Nat)),(3,.int .i64 lim1),(8,.bool wb),(9,.bool wp),(10,i64 (b-a:Nat)),(11,i64 (pv:Nat))],[]⟩->∃ s:Array UInt8,Cov E ⟨[(0,.slice (some ⟨g,0,none⟩) L cap),(1,i64 (a:Nat)),(2,i64 (b:Nat)),(3,.int .i64 lim1),(8,.bool wb),(9,.bool wp),(10,i64 (b-a:Nat)),(11,i64 (pv:Nat))],[]⟩/\PermIn a b d s/\RB V g sp s/\w.grownBy V (some g):=fun E hE=>⟨d2,hE,p2,rV,gV⟩
  cases wb with
  | false =>
   exact Gi (fun h=>by cases h) (fun _=>Gi (fun h=>by cases h) (fun _=>Gi (fun h=>by cases h) (fun _=>skipped _ (cvE rfl rfl))))
  | true =>
   refine Gi (fun _=>?_) (fun h=>by cases h)
   cases wp with
   | false =>
    exact Gi (fun h=>by cases h) (fun _=>Gi (fun h=>by cases h) (fun _=>skipped _ (cvE rfl rfl)))
   | true =>
    refine Gi (fun _=>biE (fun h=>?_) fun h=>?_) (fun h=>by cases h)
    ·refine cmo (zmC rV hz2 (by omega) hb (by omega)) ?_;rintro e U ⟨d3,ok,hpi,rfl,rU,gU⟩;have hpl:=Go.Sort.partialInsertionSort_holds znv d2 a b (by omega) (by omega) hB2;rw [hpi] at hpl;have p3:=permIn_trans _ _ _ a b p2 hpl.1;refine biE (fun hok=>?_) fun hok=>?_
     ·have hok:ok=true:=hok;exact⟨rfl,fin U d3 p3 (hpl.2 hok) rU (zd gV gU)⟩
     ·exact⟨d3,(cvE rfl rfl),p3,rU,zd gV gU⟩
    ·exact skipped _ (cvE rfl rfl)
 clear p2 rV gV hz2 hB2;rintro d3 U ⟨p3,rU,gU⟩;have hz3:d3.size=L:=by rw [p3.1];exact hz
 have hB3:Go.Sort.Below lt8 a b d3:=hB.perm (by omega) p3;have rUd:RB U.drew g sp d3:=rU;have gUd:=zd gU (zt U g);have hxp:pv<d3.size:=by omega
 refine⟨Unit,fun _=>⟨[(0,.slice (some ⟨g,0,none⟩) L cap),(1,i64 (a:Nat)),(2,i64 (b:Nat)),(3,.int .i64 lim1),(8,.bool wb),(9,.bool wp),(10,i64 (b-a:Nat)),(11,i64 (pv:Nat))],[]⟩,fun _ T=>RB T g sp d3/\w.grownBy T (some g),?_,?_⟩
 ·refine DrawE.ord [] [0,1,2,3,4,5,6,7,8,9,10,11,12,13,14] (by kernel_rfl) (biE (fun h1=>?_) fun h1=>?_)
  ·have h1:(0:Int)<(a:Int):=dT h1;have hxa:a-1<d3.size:=by omega
   refine⟨((a-1:Nat):Int),(ze (by omega)).trans (by omega),a-1,rfl,by omega,?_⟩;refine⟨_,zp rUd hxa,pv,rfl,by omega,?_⟩;refine⟨_,zp rUd hxp,cmo jz ?_⟩;rintro e _ ⟨rfl,rfl⟩;refine⟨Gd _ _,biE (fun h2=>?_) fun h2=>?_⟩
   ·have h2:(!lt8 d3[a-1]! d3[pv]!)=true:=h2;have h2:lt8 d3[a-1]! d3[pv]! = false:=(by simpa using h2);refine cmo (znV rUd hz3 hp1 hp2 hb (by omega)) ?_;rintro e T ⟨mid,d4,hpe,rfl,rT,gT⟩;obtain⟨q1,q2,q3,q4,q5⟩:=Go.Sort.round_eq znv (Go.Sort.partitionEqual_holds lt8) (by omega) hp1 hp2 (by omega) hB3 h2 hpe;refine⟨(mid,b,lim1,wb,wp,d4),(cvE rfl rfl),⟨⟨q2,hb,by dsimp only;omega⟩,by dsimp only;omega,q4,fun R r1 r2=>?_,rT,zd gUd gT⟩,by dsimp only;omega⟩;obtain⟨s1,s2⟩:=q5 R r1 r2;exact hC R (permIn_trans _ _ _ a b p3 s1) s2
   ·exact⟨(),(cvE rfl rfl),rUd,gUd⟩
  ·exact Gi (fun h=>by cases h) (fun _=>⟨(),(cvE rfl rfl),rUd,gUd⟩)
 rintro _ T ⟨rT,gT⟩;refine cmo (zq4 rT hz3 hp1 hp2 hb (by omega)) ?_;rintro e S ⟨mid,ap,d4,hpt,rfl,rS,gS⟩;have gwS:=zd gT gS;obtain⟨q1,q2,q3,q4,q5,q6,q7⟩:=Go.Sort.round_part znv (Go.Sort.partition_holds lt8) hp1 hp2 (by omega) hB3 hpt;have hz4:d4.size=L:=by omega
 refine⟨((mid-a:Nat):Int),(ze (by omega)).trans (by omega),((b-mid:Nat):Int),(ze (by omega)).trans (by omega),by decide,(((b-a)/8:Nat):Int),zic (b-a) 8 (by omega),biE (fun hc=>?_) fun hc=>?_⟩
 ·refine cmo (ih (mid-a) (by omega) a mid lim1 d4 S (UY _) rS hz4 q1 (by omega) q4) ?_;rintro e' Q ⟨rfl,d5,r1,r2,rQ,gQ⟩;obtain⟨hB5,hfin⟩:=q6 d5 r1 r2;refine nxI (by omega) ⟨(mid+1,b,lim1,decide ((((b-a)/8:Nat):Int)<=((mid-a:Nat):Int)),ap,d5),(cvE rfl rfl),⟨⟨by dsimp only;omega,hb,by dsimp only;omega⟩,by show d5.size=L;rw [r1.1];exact hz4,hB5,fun R s1 s2=>?_,rQ,zd gwS gQ⟩,by dsimp only;omega⟩;obtain⟨t1,t2⟩:=hfin R s1 s2;exact hC R (permIn_trans _ _ _ a b p3 t1) t2
 ·refine nxI (by omega) (cmo (ih (b-(mid+1)) (by omega) (mid+1) b lim1 d4 S (UY _) rS hz4 (by omega) hb q5) ?_);rintro e' Q ⟨rfl,d5,r1,r2,rQ,gQ⟩;obtain⟨hB5,hfin⟩:=q7 d5 r1 r2;refine⟨(a,mid,lim1,decide ((((b-a)/8:Nat):Int)<=((b-mid:Nat):Int)),ap,d5),(cvE rfl rfl),⟨⟨q1,by dsimp only;omega,by dsimp only;omega⟩,by show d5.size=L;rw [r1.1];exact hz4,hB5,fun R s1 s2=>?_,rQ,zd gwS gQ⟩,by dsimp only;omega⟩;obtain⟨t1,t2⟩:=hfin R s1 s2;exact hC R (permIn_trans _ _ _ a b p3 t1) t2
end
end Go.Proofs.YtpalcnbhkigagaaGreatDoor
namespace Go.Proofs.YtpalcnbhkigagaaGreatDoor
open Go.Vc Go.RowKit Go.Sei
section
variable {g cap:Nat} {l:List UInt8} {w:Wd}
theorem zqu {sp:List Value} (hr:RowS zM 5 w g sp l) (hl:l.length<=60000) :
  Calls PG 73 #[.slice (some ⟨g,0,none⟩) l.length cap] w fun e w'=>e = .returned (.tuple #[])/\∃ l',l'.Perm l/\l'.Pairwise (fun x y=>x.toNat<=y.toNat)/\RowS zM 5 w' g sp l'/\w.grownBy w' (some g):=by
 refine zI 11 [.slice (some ⟨g,0,none⟩) l.length cap] Tryz.func73 ?_;refine⟨(l.length:Nat),zav (by omega),cmo (zoc (n:=l.length) (by omega)) ?_⟩;rintro e _ ⟨⟨m,rfl,h1,h2⟩,rfl⟩;have hs:l.toArray.size=l.length:=rfl;refine cmo (zq0 (sp:=sp) (L:=l.length) (cap:=cap) hl l.length 0 l.length m l.toArray w (UY _) hr hs (Gb _) (UY _) (.inl rfl)) ?_;rintro e X ⟨rfl,d',hp,hso,rX,gX⟩;refine⟨rfl,d'.toList,?_,?_,rX,gX⟩
 ·have:=hp.2.2;rw [<- hs] at this;have h3:(d'.extract 0 l.toArray.size)=d':=by rw [<- hp.1];simp
  rw [h3] at this;simpa using this
 ·refine List.pairwise_iff_getElem.2 fun i j hi hj hij=>?_;have hi':i<d'.size:=by simpa using hi
  have hj':j<d'.size:=by simpa using hj
  have hz:d'.size=l.length:=hp.1;have h4:=hso i j (Gb _) hij (by omega);rw [getElem!_pos d' i hi',getElem!_pos d' j hj'] at h4;have h4:=dF h4;rw [Array.getElem_toList,Array.getElem_toList];omega
end
theorem zn6 (v:UInt8):v∈zO:=by
 unfold zO;exact UL.2 ⟨v.toNat,Uq.2 v.toNat_lt,UInt8.ofNat_toNat⟩
theorem zeR {l:List UInt8} {v:UInt8}:v∈je l↔v∈l:=by
 unfold je;rw [QV];constructor
 ·rintro⟨_,h⟩;obtain⟨x,hx,e⟩:=Qn.1 h;rw [<- dT e];exact hx
 ·exact fun h=>⟨zn6 v,Qn.2 ⟨v,h,Uu rfl⟩⟩
theorem zqs:zO.Pairwise (fun x y=>x.toNat<y.toNat):=by
 unfold zO;rw [List.pairwise_map];refine List.Pairwise.imp_of_mem ?_ (List.pairwise_lt_range (n:=256));intro a b ha hb h;rw [KK,KK,QF (Uq.1 ha),QF (Uq.1 hb)];exact h
theorem zgC (l:List UInt8):(je l).Pairwise (fun x y=>x.toNat<y.toNat):=List.Pairwise.filter _ zqs
theorem zeT:∀ (l:List UInt8) (p:UInt8),(∀ x∈l,p.toNat<=x.toNat)->l.Pairwise (fun x y=>x.toNat<=y.toNat)->(zaJ p l).Pairwise (fun x y=>x.toNat<y.toNat)/\(∀ x,x∈zaJ p l↔x∈l/\x≠p)/\∀ x∈zaJ p l,p.toNat<x.toNat
 | [],p,_,_=>⟨.nil,fun x=>by simp [zaJ],fun x h=>by cases h⟩
 | y::r,p,hp,hs=>by
  rw [List.pairwise_cons] at hs;by_cases h:y=p
  ·subst h;obtain⟨a,b,c⟩:=zeT r y hs.1 hs.2;have e:zaJ y (y::r)=zaJ y r:=by show (if y=y then zaJ y r else y::zaJ y r)=_;rw [Gr rfl]
   rw [e];refine⟨a,fun x=>(b x).trans ⟨fun h=>⟨Ka _ h.1,h.2⟩,fun h=>⟨(UE.1 h.1).resolve_left h.2,h.2⟩⟩,c⟩
  ·obtain⟨a,b,c⟩:=zeT r y hs.1 hs.2;have e:zaJ p (y::r)=y::zaJ y r:=by show (if y=p then zaJ p r else y::zaJ y r)=_;rw [Gq h]
   rw [e];have hpy:p.toNat<y.toNat:=by
    have h1:=hp y (KC ..);have h2:y.toNat≠p.toNat:=fun e=>h (Ui.1 e);omega
   refine⟨List.pairwise_cons.2 ⟨c,a⟩,fun x=>?_,fun x hx=>?_⟩
   ·rw [UE,b x,UE];constructor
    ·rintro (rfl | ⟨h1,h2⟩)
     ·exact⟨.inl rfl,h⟩
     ·refine⟨.inr h1,fun e=>?_⟩;subst e;have:=hs.1 x h1;omega
    ·rintro⟨rfl | h1,h2⟩
     ·exact .inl rfl
     ·by_cases e:x=y
      ·exact .inl e
      ·exact .inr ⟨h1,e⟩
   ·rcases UE.1 hx with rfl | hx
    ·exact hpy
    ·have:=c x hx;omega
theorem zoC {l:List UInt8} (hs:l.Pairwise (fun x y=>x.toNat<=y.toNat)):(ded l).Pairwise (fun x y=>x.toNat<y.toNat)/\∀ x,x∈ded l↔x∈l:=by
 cases l with
 | nil=>exact⟨.nil,fun x=>Iff.rfl⟩
 | cons y r =>
  rw [List.pairwise_cons] at hs;obtain⟨a,b,c⟩:=zeT r y hs.1 hs.2;refine⟨List.pairwise_cons.2 ⟨c,a⟩,fun x=>?_⟩;show x∈y::zaJ y r↔_;rw [UE,b x,UE];constructor
  ·rintro (h | h)
   ·exact .inl h
   ·exact .inr h.1
  ·rintro (h | h)
   ·exact .inl h
   ·by_cases e:x=y
    ·exact .inl e
    ·exact .inr ⟨h,e⟩
theorem zk8:∀ {a b:List UInt8},a.Pairwise (fun x y=>x.toNat<y.toNat)->b.Pairwise (fun x y=>x.toNat<y.toNat)->(∀ x,x∈a↔x∈b)->a=b
 | [],[],_,_,_=>rfl
 | [],y::b,_,_,h=>Gs ((h y).2 (KC ..)) (by simp)
 | x::a,[],_,_,h=>Gs ((h x).1 (KC ..)) (by simp)
 | x::a,y::b,ha,hb,h=>by
  rw [List.pairwise_cons] at ha hb;have e:x=y:=by
   rcases UE.1 ((h x).1 (KC ..)) with e | h1
   ·exact e
   ·rcases UE.1 ((h y).2 (KC ..)) with e | h2
    ·exact e.symm
    ·have:=hb.1 x h1;have:=ha.1 y h2;omega
  subst e;rw [zk8 ha.2 hb.2 fun z=>?_];have hz:=h z;rw [UE,UE] at hz;constructor
  ·intro hza;rcases hz.1 (.inr hza) with e | h2
   ·subst e;have:=ha.1 z hza;omega
   ·exact h2
  ·intro hzb;rcases hz.2 (.inr hzb) with e | h2
   ·subst e;have:=hb.1 z hzb;omega
   ·exact h2
theorem zix {l:List UInt8} (h:l.Pairwise (fun x y=>x.toNat<y.toNat)):je l=l:=zk8 (zgC l) h fun _=>zeR
theorem zdi (l:List UInt8):(je l).length<=256:=by
 refine UO (JO ..) ?_;unfold zO;rw [QQ,KY];exact UY _
theorem zcU {p:OA} {cap:Nat} {l:List UInt8} {w:Wd} (hl:SlR zM w p l) (h1:1<=l.length) (hm:l.length<=60000) :
  Calls PG 41 #[.slice p l.length cap] w fun e w'=>(∃ q c,e = .returned (.slice q (je l).length c)/\OwnS zM 5 w.heap.size w' q c (je l))/\Bw w w':=by
 refine zI 9 [.slice p l.length cap] Tryz.func41 ?_;refine cmo (zka hl (by omega) (fun e=>by subst e;have:=hl.none;subst this;simp at h1)) ?_;rintro e X ⟨⟨q,c,rfl,ho⟩,hbX⟩;rcases ho.inv with ⟨_,_,h0⟩ | ⟨g,cur,rfl,hB,hcur,hlc,hcm,hcs,hct⟩
 ·rw [h0] at h1;simp at h1
 have hcs:cur.size=c:=by rw [hcs];exact UZ _
 obtain⟨sp,hsp⟩:=nm (cur.toList.drop l.length);have hct:cur.toList.take l.length=l.flatMap zM.enc:=by rw [<- hct];congr 1;exact (UZ _).symm
 have hR:RowS zM 5 X g sp l:=by
  unfold RowS;rw [hcur,<- hct,hsp,JS]
 have hspl:l.length+sp.length=c:=by
  have h1:cur.toList.length=c:=by rw [Array.length_toList];exact hcs
  rw [hsp,Qw,h1];omega
 refine cmo (zqu hR hm) ?_;rintro e Y ⟨rfl,l',hp,hso,rY,gY⟩;have hlen:l'.length=l.length:=hp.length_eq;have oY:OwnS zM 5 w.heap.size Y (some ⟨g,0,none⟩) c l':=by
  unfold OwnS World.ownsRow;refine⟨by rw [qp],.inr ⟨g,c,_,rfl,hB,rY,by omega,hcm,?_,?_⟩⟩
  ·show (l'.flatMap zM.enc++sp).length=c*1;rw [lap,qp];show l'.length*1+_=_;omega
  ·exact QZ (qp l')
 have c3:=zld oY (by omega);rw [hlen] at c3;refine cmo c3 ?_;rintro e Z ⟨rfl,oZ,gZ⟩;have hwX:=hbX.size;obtain⟨d1,d2⟩:=zoC hso;have hd:ded l'=je l:=zk8 d1 (zgC l) fun x=>(d2 x).trans ((hp.mem_iff).trans zeR.symm);rw [hd] at oZ ⊢;exact⟨⟨_,_,rfl,oZ⟩,(hbX.trans (zh gY hwX hB)).trans (zh gZ (UO hwX gY.size) hB)⟩
end Go.Proofs.YtpalcnbhkigagaaGreatDoor
