/- Contracts of functions, and plain facts, for the law that the last text of this claim proves. -/
import Derived.Test.YtpalcnbhkigagaaGreatDoorM4
import Derived.Test.YtpalcnbhkigagaaGreatDoorM2
import Derived.Test.YtpalcnbhkigagaaGreatDoorM3
import Derived.Sort.AssemblyPlain
set_option linter.unusedSimpArgs false
set_option linter.unusedVariables false
namespace Go.Proofs.YtpalcnbhkigagaaGreatDoor
open Go.Vc Go.RowKit Go.Sei
theorem zjR {locs:Nat}:∀ (ev:List Ev) (i:Nat) (t:Int) (n:Nat),zjT locs i ev t n=true->∀ j,i+j<locs->j<ev.length->∃ v,ev.getD j ev0=⟨-1,2,UInt8.ofNat (i+j),v,0,0,0⟩
 | [],_,_,_,_,_,_,h=>by simp at h
 | e::ev,i,t,n,h,j,hj,hl=>by
  unfold zjT at h;rw [Gp (by omega:i<locs)] at h;by_cases he:e=⟨-1,2,UInt8.ofNat i,e.v,0,0,0⟩
  ·rw [Gp he] at h
   cases j with
   | zero=>exact⟨e.v,by rw [UL];exact he⟩
   | succ j =>
    obtain⟨v,hv⟩:=zjR ev (i+1) t n h j (by omega) (by simpa using hl);exact⟨v,by rw [show i+(j+1)=i+1+j by omega];exact hv⟩
  ·rw [Gn he] at h;cases h
theorem zor (ev:List Ev):jb ev<=ev.length:=by
 unfold jb
 induction ev with
 | nil=>exact UW _
 | cons e ev ih =>
  rw [Ko]
  split
  ·rw [Qt,Qt];omega
  ·exact UZ _
theorem znr {x:ExD} {locs:Nat} (h:jD x.ev locs=true) (hl:locs<=x.ev.length) (h6:locs<=6):∀ l,l<locs->z9 x l≠[]:=by
 intro l hll he;obtain⟨v,hv⟩:=zjR x.ev 0 0 0 h l (by omega) (by omega);have:l∈z9 x l:=by
  unfold z9;rw [QT,Uo];refine⟨by omega,?_⟩;have h2:evA x l=⟨-1,2,UInt8.ofNat (0+l),v,0,0,0⟩:=hv;rw [h2,bAT,dE,dE];refine⟨rfl,?_⟩;show (UInt8.ofNat (0+l)).toNat=l;rw [UR,KI];exact QD (by omega)
 rw [he] at this
 cases this
abbrev zcB (x:ExD):List RelD:=[x.po,x.rf,x.co,x.dt,x.ct,x.rm]
theorem zqc (x:ExD) (q:OA) (c:Nat) {i:Nat} (hi:i<6):((exC x q c).drop (1+49*i)).take 49=zj ((zcB x).getD i x.po):=by
 have g:∀ {A T:List Value} {o:Nat} {r:RelD},A.length=o->exC x q c=A++(zj r++T)->((exC x q c).drop o).take 49=zj r:=fun {A T o r} hA hE=>by
  rw [hE,<- hA,Ul,Jh (by rw [zh];decide),JH (by rw [zh];decide)]
 match i,hi with
 | 0,_=>obtain⟨A,T,hA,hE⟩:=zox x q c [];exact g hA (by rw [<- hE,QK];rfl)
 | 1,_=>obtain⟨A,T,hA,hE⟩:=zqX x q c [];exact g hA (by rw [<- hE,QK];rfl)
 | 2,_=>obtain⟨A,T,hA,hE⟩:=zqZ x q c [];exact g hA (by rw [<- hE,QK];rfl)
 | 3,_=>obtain⟨A,T,hA,hE⟩:=zoz x q c [];exact g hA (by rw [<- hE,QK];rfl)
 | 4,_=>obtain⟨A,T,hA,hE⟩:=zoA x q c [];exact g hA (by rw [<- hE,QK];rfl)
 | 5,_=>obtain⟨A,T,hA,hE⟩:=zow x q c [];exact g hA (by rw [<- hE,QK];rfl)
theorem zpF (L:Nat) {k:Nat} (hk:k<6):((List.range 6).map (fun i=>Value.pointer (some ⟨L,0+(1+49*i),none⟩)))[k]?=some (.pointer (some ⟨L,0+(1+49*k),none⟩)):=by
 rw [KV,Ki hk];rfl
def okX (x:ExD) (r:RelD):Bool:=decide (r.n=x.ev.length)&&okR r
section
variable {c:Nat} {x:ExD} {q:OA} {w:Wd}
theorem zeI {X:Wd} {b:Nat} (fx:ExH X b x q c) {i:Nat} (hi:i<6):zx X ⟨b,0+(1+49*i),none⟩ (zj ((zcB x).getD i x.po)):=by
 have h:=zG (n:=1+49*i) (m:=49) (za fx);rw [show (exC x q c).toArray.toList=exC x q c from rfl,zqc x q c hi] at h;exact h
theorem ExW.rel (hv:ExW w x q) {i:Nat} (hi:i<6):zV ((zcB x).getD i x.po).to:=by
 match i,hi with
 | 0,_=>exact hv.po
 | 1,_=>exact hv.rf
 | 2,_=>exact hv.co
 | 3,_=>exact hv.dt
 | 4,_=>exact hv.ct
 | 5,_=>exact hv.rm
theorem zpd (hv:ExW w x q) (hT:Tz64M w):CB 14 #[.agg (exC x q c).toArray] w (.bool (zbr x)):=by
 refine jf 70 [.agg (exC x q c).toArray] (.c .p (.c .p (.c .p (.c .p (.c .p .p))))) Tryz.func14 ?_;obtain⟨L,hL⟩:=nm (w.heap.size);have hn:=hv.n;refine⟨Unit,fun _=>⟨[(1,At0 L)],[]⟩,fun _ X=>ExH X L x q c/\Bw w X,⟨(),⟨.cons (by rw [hL];rfl) .nil,rfl⟩,by rw [hL];exact zy w _,(zba w _)⟩,?_⟩;rintro _ X ⟨fx,hbX⟩;obtain⟨n,hnn⟩:=nm (jb x.ev);refine⟨Unit,fun _=>⟨[(1,At0 L)],[]⟩,fun _ Y=>X=Y,?_,?_⟩
 ·refine⟨_,zc (za fx) (i:=0) rfl,biE (fun h=>?_) fun _=>?_⟩
  ·have h:(48:Int)<(x.ev.length:Nat):=dT h;omega
  exact⟨(),(cvE rfl rfl),rfl⟩
 rintro _ _ rfl;refine⟨Unit,fun _=>⟨[(1,At0 L),(3,i64 (n:Nat))],[]⟩,fun _ Y=>Bw X Y,?_,?_⟩
 ·refine⟨_,zc (za fx) (i:=0) rfl,cmo (zkY (hv.below hbX).ev (by omega)) ?_⟩;rintro e Y ⟨rfl,hbY⟩;rw [<- hnn];exact⟨(),(cvE rfl rfl),hbY⟩
 rintro _ Y hbY;have hvX:=hv.below hbX;have hnl:n<=x.ev.length:=by rw [hnn];exact zor _
 have hbwY:=zst hbX hbY;have hr0:decide (x.ev.length<=48)=true:=Us (by omega);have no:∀ {Z:Wd},Bw w Z->zbr x=false->(Ending.returned (.bool false)=Ending.returned (.bool (zbr x))/\Bw w Z):=fun {Z} hb h=>⟨rb h.symm,hb⟩;refine⟨Unit,fun _=>⟨[(1,At0 L),(3,i64 (n:Nat))],[]⟩,fun _ Z=>jD x.ev n=true/\(1<=n/\n<=6)/\ExH Z L x q c/\Bw w Z,?_,?_⟩
 ·refine biE (fun h1=>?_) fun h1=>?_
  ·have h1:(n:Int)<1:=dT h1;refine brT (brT (no hbwY ?_));unfold zbr;rw [<- hnn,Uh (by omega:¬ 1<=n),Uj,Ui]
  have h1:¬ (n:Int)<1:=dF h1;refine biE (fun h2=>?_) fun h2=>?_
  ·have h2:(6:Int)<(n:Int):=dT h2;refine brT (no hbwY ?_);unfold zbr;rw [<- hnn,Uh (by omega:¬ n<=6),Uj,Ui,Ui]
  have h2:¬ (6:Int)<(n:Int):=dF h2;have hn1:decide (1<=n)=true:=Us (by omega);have hn6:decide (n<=6)=true:=Us (by omega);have fY:=zb hbY fx;refine⟨_,zc (za fY) (i:=0) rfl,cmo (zg2 (locs:=n) (hvX.below hbY).ev (by omega) (by omega)) ?_⟩;rintro e Z ⟨rfl,hbZ⟩;have hbwZ:=zst hbwY hbZ;refine biE (fun h3=>?_) fun h3=>?_
  ·have h3:jD x.ev n=false:=by
    have h3:(!jD x.ev n)=true:=h3;simpa using h3
   refine no hbwZ ?_;unfold zbr;rw [<- hnn,h3,Uj,Ui,Ui,Ui]
  have h3:jD x.ev n=true:=by
   have h3:(!jD x.ev n)=false:=h3;simpa using h3
  exact⟨(),(cvE rfl rfl),h3,by omega,zb hbZ fY,hbwZ⟩
 rintro _ Z ⟨h3,⟨h1,h2⟩,fZ,hbwZ⟩;clear fx hbX hbY hbwY hvX;have hn1:decide (1<=n)=true:=Us h1;have hn6:decide (n<=6)=true:=Us h2;have hright:zbr x=(zb3 x&&(qM x.po (poR x.ev)&&(zaf x&&(zai x n&&za5 x)))):=by
  unfold zbr;rw [<- hnn,hr0,hn1,hn6,h3];rfl
 have hrels:zb3 x=(zcB x).all (okX x):=rfl;refine⟨Unit,fun _=>⟨[(1,At0 L),(3,i64 (n:Nat))],[]⟩,fun _ U=>zb3 x=true/\ExH U L x q c/\Bw w U,?_,?_⟩
 ·refine⟨⟨by decide,by decide,rfl⟩,(List.range 6).map (fun i=>Value.pointer (some ⟨L,0+(1+49*i),none⟩)),rfl,?_⟩;obtain⟨g,hg⟩:=nm (Z.heap.size);refine⟨Nat,fun k=>⟨[(1,At0 L),(3,i64 (n:Nat)),(32,.slice (some ⟨g,0,none⟩) 6 6),(33,i64 6),(34,i64 (k:Nat))],[]⟩,fun k U=>k<=6/\((zcB x).take k).all (okX x)=true/\U.heap[g]?=some (.cells ((List.range 6).map (fun i=>Value.pointer (some ⟨L,0+(1+49*i),none⟩))).toArray 95 (0,0))/\ExH U L x q c/\Bw w U,fun k=>6-k,0,
   ⟨.cons rfl (.cons rfl (.cons (by rw [hg];rfl) (.cons rfl (.cons rfl .nil)))),rfl⟩,⟨UZ _,rfl,by rw [hg];exact zy Z _,qF _ fZ,hbwZ.alloc hbwZ.size _⟩,?_⟩
  clear hg fZ hbwZ;rintro k U ⟨hk,hall,fg,fU,hbU⟩;dsimp only;refine biE (fun hc=>?_) fun hc=>?_
  ·have hc:(k:Int)<6:=dT hc;have hk6:k<6:=by omega
   obtain⟨r,hr⟩:=nm ((zcB x).getD k x.po);have hkl:k<(zcB x).length:=hk6;have htk:(zcB x).take (k+1)=(zcB x).take k++[r]:=by
    rw [tsg hkl,hr,gDe,gE hkl];rfl
   have hrw:zV r.to:=by rw [hr];exact hv.rel hk6
   have hcel:zx U ⟨L,0+(1+49*k),none⟩ (zj r):=by rw [hr];exact zeI fU hk6
   have dU:Bw U U.drew:=(Gb _ _).drew;have hrm:r∈zcB x:=by
    rw [hr,gDe,gE hkl];exact gM hkl
   have bad:∀ {Z:Wd},Bw w Z->okX x r=false->(Ending.returned (.bool false)=Ending.returned (.bool (zbr x))/\Bw w Z):=fun {Z} hb h=>no hb (by
    have:zb3 x=false:=by
     rw [hrels,KN];exact⟨r,hrm,by rw [h];decide⟩
    rw [hright,this];rfl)
   refine⟨k,rfl,hk6,?_⟩;refine⟨.pointer (some ⟨L,0+(1+49*k),none⟩),by
    have:=zc (za fg) (i:=k*1) (v := .pointer (some ⟨L,0+(1+49*k),none⟩)) (by
     rw [UX];exact zpF L hk6)
    exact this,?_⟩
   refine DrawE.ord [] [0,1,2,3,4,5,6,7,8,9,10,11,12,13,14] (by kernel_rfl) ⟨i64 r.n,zc (zm dU hcel) (i:=0) rfl,_,zc (za (hdr fU)) (i:=0) rfl,biE (fun h4=>?_) fun h4=>?_⟩
   ·have h4:(!decide (r.n=(x.ev.length:Int)))=true:=h4;have h4:¬ r.n=(x.ev.length:Int):=(by simpa using h4);exact brT (bad ((zst hbU dU)) (by unfold okX;rw [Uh h4];rfl))
   have h4:(!decide (r.n=(x.ev.length:Int)))=false:=h4;have h4:r.n=(x.ev.length:Int):=by simpa using h4
   refine⟨zj r,zh _,zm dU hcel,hlt (hdr fU),cmo (zbH hrw) ?_⟩;rintro e V ⟨rfl,hbV⟩;refine⟨hbV,?_⟩;have hbV2:=hbU.trans ((dU.trans hbV).mono hbU.size);refine biE (fun h5=>?_) fun h5=>?_
   ·have h5:okR r=false:=by
     have h5:(!okR r)=true:=h5;simpa using h5
    exact bad hbV2 (by unfold okX;rw [h5,Ui])
   have h5:okR r=true:=by
    have h5:(!okR r)=false:=h5;simpa using h5
   refine nxI (by omega) ⟨k+1,(cvE rfl rfl),⟨hk6,?_,zb (dU.trans hbV) fg,zb (dU.trans hbV) fU,hbV2⟩,zdc (by omega)⟩;rw [htk,QJ,hall];show (true&&(okX x r&&true))=true;unfold okX;rw [Us h4,h5];rfl
  ·have hc:¬ (k:Int)<6:=dF hc;obtain rfl:k=6:=by omega
   exact⟨(),(cvE rfl rfl),hall,fU,hbU⟩
 rintro _ U ⟨hrr,fU,hbU⟩;rw [hrr,Uy] at hright;have hall:∀ r∈zcB x,r.n=x.ev.length/\okR r=true:=fun r hr=>by
  rw [hrels,Qk] at hrr;have:=hrr r hr;unfold okX at this;rw [bAT,dE] at this;exact this
 have hrf:=hall x.rf (by simp);have hrm:=hall x.rm (by simp);have hvU:=hv.below hbU;have dU:Bw U U.drew:=(Gb _ _).drew;have hvD:=hvU.below dU;have hbD:=zst hbU dU;refine DrawE.ord [] [0,1,2,3,4,5,6,7,8,9,10,11,12,13,14,15,16] (by kernel_rfl) ⟨zj x.po,zh _,zeI (hdr fU) (i:=0) (by decide),hlt (hdr fU),_,zc (za (hdr fU)) (i:=0) rfl,cmo (zcM hvD.ev (by omega)) ?_⟩;rintro e V ⟨rfl,hbV⟩;refine⟨hbV,?_⟩;have hbV2:=zst hbD hbV;have fV:=zb hbV (hdr fU);have hvV:=hvD.below hbV;refine⟨_,fun w=>zbg _ _ x.po (poR x.ev) w,biE (fun h4=>?_) fun h4=>?_⟩
 ·have h4:qM x.po (poR x.ev)=true:=h4;rw [h4,Uy] at hright;refine cmo (zmI fV hvV hrf.1 hrf.2 (hT.below hbV2)) ?_;rintro e T ⟨rfl,hbT⟩;refine⟨hbT,?_⟩;have hbT2:=zst hbV2 hbT;refine biE (fun h5=>?_) fun h5=>?_
  ·have h5:zaf x=true:=h5;rw [h5,Uy] at hright;refine cmo (znc (locs:=n) (zb hbT fV) (hvV.below hbT) (by omega) (znr h3 hnl (by omega)) (hT.below hbT2)) ?_;rintro e R ⟨rfl,hbR⟩;refine⟨hbR,?_⟩;have hbR2:=zst hbT2 hbR;refine biE (fun h6=>?_) fun h6=>?_
   ·have h6:zai x n=true:=h6;rw [h6,Uy] at hright;refine cmo (zk5 (zb hbR (zb hbT fV)) ((hvV.below hbT).below hbR) hrm.1 hrm.2 (hT.below hbR2)) ?_;rintro e Q ⟨rfl,hbQ⟩;exact⟨hbQ,rb hright.symm,(zst hbR2 hbQ)⟩
   ·have h6:zai x n=false:=h6;rw [h6,Uj] at hright;exact⟨rb hright.symm,hbR2⟩
  ·have h5:zaf x=false:=h5;rw [h5,Uj] at hright;exact brF ⟨rb hright.symm,hbT2⟩
 ·have h4:qM x.po (poR x.ev)=false:=h4;rw [h4,Uj] at hright;exact brF (brF ⟨rb hright.symm,hbV2⟩)
theorem zpc (hv:ExV w x q) (hT:Tz64M w):CB 14 #[.agg (exC x q c).toArray] w (.bool (zbr x)):=zpd hv.w hT
end
theorem zhl (k:Nat) (p:Nat->Bool):zkF (k+1) p=if p k=true then zkF k p|||2^k else zkF k p:=by
 unfold zkF;rw [QW,KU];rfl
theorem zia (p:Nat->Bool):∀ k,k<=64->zkF k p<2^64
 | 0,_=>by show 0<_;decide
 | k+1,h=>by
  rw [zhl]
  split
  ·exact KZ (zia p k (by omega)) (qg (by omega))
  ·exact zia p k (by omega)
theorem zn5 {n:Nat} {p:Nat->Nat->Bool} (hn:n<=64):zV (zlN n p).to:=zni fun i _ _=>zia _ n hn
structure RelOk (n:Nat) (r:RelD):Prop where
 n:r.n=n
 ok:okR r=true
 w:zV r.to
section
variable {n:Nat} {r a b:RelD}
theorem RelOk.le (h:RelOk n r):n<=48:=by
 have:=(zaR h.ok).2.1;have:=h.n;omega
theorem RelOk.bit (h:RelOk n r) {i j:Nat} (hi:i<48) (hb:z3 r i j=true):i<n/\j<n:=by
 have:=zim h.ok h.w hi hb;have:=h.n;omega
theorem zrv (hn:r.n=n) (h48:n<=48) (h:∀ i j,i<48->z3 r i j=true->i<n/\j<n):okR r=true:=by
 unfold okR;rw [bAT,bAT,dE,dE,Qk];refine⟨by omega,by omega,fun i hi=>?_⟩;have hi:=Uo.1 hi;unfold zbp;rw [bAT,QH,dE,dE,dE];refine⟨?_,?_⟩
 ·rw [zaz,zaj];apply Kc;intro j;rw [QE];by_cases hj:j<64
  ·rw [zbk (zaG _) hj,zbz (by omega) (by omega) hj]
   cases hb:(r.to i).testBit j with
   | false=>rfl
   | true =>
    have:=(h i j hi hb).2;rw [Us (by omega)];rfl
  ·have:=JI (nL (KF (show qX (r.to i) (j9 r.n)<=_ from Qy) (show 18446744073709551615-j9 r.n<2^64 by omega)) (Ke (show 0<2 by decide) (show 64<=j by omega)));exact this
 ·by_cases hin:i<n
  ·exact .inl (by omega)
  ·refine .inr (Kc fun j=>?_);rw [QE]
   cases hb:(r.to i).testBit j with
   | false=>rfl
   | true=>exact Gq (h i j hi hb).1 hin
theorem RelOk.of (hn:r.n=n) (h48:n<=48) (h:∀ i j,i<48->z3 r i j=true->i<n/\j<n) (hw:zV r.to):RelOk n r:=⟨hn,zrv hn h48 h,hw⟩
theorem zh8 (p:Nat->Bool):∀ k j,(zkF k p).testBit j=(decide (j<k)&&p j)
 | 0,j=>by
  show (0:Nat).testBit j=_;simp
 | k+1,j=>by
  rw [zhl]
  split
  ·rename_i h;rw [Ur,zh8 p k j,za0];by_cases e:j=k
   ·subst e;simp [h]
   ·rw [Uh e,Ux];congr 1;exact QG.2 (by omega)
  ·rename_i h;rw [zh8 p k j];by_cases e:j=k
   ·subst e;have:p j=false:=(by simpa using h);rw [this,Ui,Ui]
   ·congr 1;exact QG.2 (by omega)
theorem znj {f:Nat->Nat} {i j:Nat}:z3 (zby n f) i j=(decide (i<n)&&(f i).testBit j):=by
 unfold z3 zby;dsimp only
 split
 ·rename_i h;rw [Us h];rfl
 ·rename_i h;rw [Uh h,QE];rfl
theorem zn6 {p:Nat->Nat->Bool} {i j:Nat}:z3 (zlN n p) i j=(decide (i<n)&&(decide (j<n)&&p i j)):=by
 unfold zlN;rw [znj,zh8]
theorem RelOk.pick (h:n<=48) (p:Nat->Nat->Bool):RelOk n (zlN n p):=by
 refine .of rfl h (fun i j _ hb=>?_) (zn5 (by omega));rw [zn6] at hb;simp only [bAT,dE] at hb;exact⟨hb.1,hb.2.1⟩
theorem zdn (ha:RelOk n a) {i j:Nat} (hi:i<64):z3 (zN a) i j=(decide (j<n)&&z3 a j i):=by
 unfold z3;rw [zkg ha.ok];have e1:decide ((j:Int)<a.n)=decide (j<n):=QG.2 (by have:=ha.n;omega);have e2:decide (i∈els (a.to j))=(a.to j).testBit i:=by
  cases h:(a.to j).testBit i with
  | true=>exact Us (zah.2 ⟨hi,h⟩)
  | false=>exact Uh fun hm=>by rw [(zah.1 hm).2] at h;cases h
 rw [e1,e2]
theorem RelOk.back (ha:RelOk n a):RelOk n (zN a):=by
 have h48:=ha.le;have hbit:∀ i j,i<48->z3 (zN a) i j=true->i<n/\j<n:=fun i j hi h=>by
  rw [zdn ha (by omega),bAT,dE] at h;exact⟨(ha.bit (by omega) h.2).2,h.1⟩
 refine .of ?_ h48 hbit fun i hi=>?_
 ·unfold zN;rw [Gp ha.ok];exact ha.n
 ·apply QA;intro hge;obtain⟨j,hj1,hj2⟩:=Ja hge;have:=(hbit i j hi hj2).2;omega
def zpk (before:Nat->Nat) (left:Nat):Prop:=∀ S,S≠0->S&&&left=S->∃ i∈els S,before i&&&S=0
theorem zlv {before:Nat->Nat}:∀ (m left:Nat) (l:List Nat),left<2^64->(els left).length<=m->((zhZ before m left l).isSome=true↔zpk before left)
 | 0,left,l,h64,hm=>by
  have h0:left=0:=zcs h64 (by rw [Qs];exact List.length_eq_zero_iff.1 (by omega));subst h0;exact⟨fun _ S hS he=>Gq he.symm (by rw [Nat.and_zero];exact hS),fun _=>rfl⟩
 | m+1,left,l,h64,hm=>by
  by_cases h0:left=0
  ·subst h0;have e:zhZ before (m+1) 0 l=some l:=Gp rfl;rw [e];exact⟨fun _ S hS he=>Gq he.symm (by rw [Nat.and_zero];exact hS),fun _=>rfl⟩
  have e:zhZ before (m+1) left l=match zbL before left with | none=>none | some a=>zhZ before m (zaA left (2^a)) (l++[a]):=Gn h0
  rw [e]
  cases hf:zbL before left with
  | none =>
   refine⟨fun h=>(by cases h),fun h=>?_⟩;obtain⟨i,hi,hb⟩:=h left h0 (Nat.and_self _);unfold zbL at hf;rw [List.find?_eq_none] at hf;exact Gq (Us hb) (hf i hi)
  | some k =>
   have hk:=zjM hf;have hk2:before k&&&left=0:=by
    unfold zbL at hf;have:=List.find?_some hf;exact dT this
   have hk64:=zoG hk;have hlen:=j4 h64 hk;have hsub:∀ S,S&&&qX left (2^k)=S->S&&&left=S:=fun S h=>by
    rw [<- h];unfold qX;apply Kc;intro j;simp only [Uc]
    cases S.testBit j <;> cases left.testBit j <;> simp
   dsimp only;rw [zaz,zlv m (qX left (2^k)) (l++[k]) (jM h64) (by omega)];constructor
   ·intro h S hS he;by_cases hm2:k∈els S
    ·refine⟨k,hm2,?_⟩;rw [<- he,Nat.and_comm S left,<- Nat.and_assoc,hk2,Nat.zero_and]
    ·refine h S hS (Kc fun j=>?_);rw [Uc]
     cases hb:S.testBit j with
     | false=>rfl
     | true =>
      have hl:left.testBit j=true:=by
       have h2:=hb;rw [<- he,Uc,bAT] at h2;exact h2.2
      have hj:j<64:=by
       apply QA;intro hj;have:=JI (nL h64 (Ke (by decide) hj));rw [this] at hl;cases hl
      have hjk:¬ j=k:=fun e=>hm2 (zah.2 ⟨hk64,by rw [<- e];exact hb⟩);rw [zbk (qg hk64) hj,hl,za0,Uh hjk];rfl
   ·exact fun h S hS he=>h S hS (hsub S he)
theorem zqI (ha:RelOk n a):zg4 a=true↔zpk (zN a).to (j9 n):=by
 have h48:=ha.le;unfold zg4 zdX;rw [Gp ha.ok,zaj,ha.n];refine zlv 64 _ _ (zaG _) ?_;unfold els;have:=JM (fun i=>(j9 n).testBit i) (List.range 64);rw [KW] at this;exact this
end
structure WX (x:ExD):Prop where
 po:zV x.po.to
 rf:zV x.rf.to
 co:zV x.co.to
 dt:zV x.dt.to
 ct:zV x.ct.to
 rm:zV x.rm.to
structure XOk (x:ExD):Prop where
 n:x.ev.length<=48
 po:RelOk x.ev.length x.po
 rf:RelOk x.ev.length x.rf
 co:RelOk x.ev.length x.co
 dt:RelOk x.ev.length x.dt
 ct:RelOk x.ev.length x.ct
 rm:RelOk x.ev.length x.rm
 ev:jD x.ev (jb x.ev)=true
 poE:qM x.po (poR x.ev)=true
 rfR:zaf x=true
 coR:zai x (jb x.ev)=true
 dep:za5 x=true
section
variable {n:Nat} {a b:RelD} {x:ExD}
theorem zmm {t:Int}:∀ (es:List Ev) (j s k:Nat),(zf4 t j es s).testBit k=true↔s.testBit k=true\/∃ m,m<es.length/\k=j+m/\(es.getD m ev0).th=t
 | [],j,s,k=>by
  show s.testBit k=true↔_;simp
 | e::es,j,s,k=>by
  show (zf4 t (j+1) es (if e.th=t then s|||2^j else s)).testBit k=true↔_;rw [zmm es];have hs:(if e.th=t then s|||2^j else s).testBit k=true↔s.testBit k=true\/(k=j/\e.th=t):=by
   split
   ·rename_i h;rw [Ur,za0,QH,dE];simp [h]
   ·rename_i h;simp [h]
  rw [hs];constructor
  ·rintro ((h | ⟨h1,h2⟩) | ⟨m,h1,h2,h3⟩)
   ·exact .inl h
   ·exact .inr ⟨0,by simp,h1,h2⟩
   ·exact .inr ⟨m+1,by simpa using h1,by omega,by simpa using h3⟩
  ·rintro (h | ⟨m,h1,h2,h3⟩)
   ·exact .inl (.inl h)
   ·cases m with
    | zero=>exact .inl (.inr ⟨h2,h3⟩)
    | succ m=>exact .inr ⟨m,by simpa using h1,by omega,by simpa using h3⟩
theorem zff {key:Nat->Nat} {y:Nat}:∀ r:List Nat,(ja key r y).Perm (y::r)
 | [] => .refl _
 | z::r=>by
  unfold ja
  split
  ·exact ((zff r).cons z).trans (.swap y z r)
  ·exact .refl _
theorem zhA {key:Nat->Nat}:∀ (l acc:List Nat),(l++acc).Nodup->(l.foldl (fun acc x=>ja key acc x) acc).Nodup
 | [],acc,h=>h
 | y::l,acc,h=>zhA l _ (by
   have p:(l++ja key acc y).Perm (y::l++acc):=((zff acc).append_left l).trans List.perm_middle;exact p.nodup_iff.2 h)
theorem zkK (l:Nat):(zQ x l).Nodup:=by
 unfold zQ zcJ;refine (List.reverse_perm _).nodup_iff.2 (zhA _ _ ?_);rw [QK];exact List.nodup_range.filter _
end
section
variable {n:Nat} {r:RelD} {x:ExD}
theorem zqk {j:Nat} (h:j<64):ctz (2^j)=j:=by
 have h2:(2:Nat)^j<2^64:=Kf (by decide) h;have:=(zah.1 (ziE (Nat.ne_of_gt (Nat.pow_pos (by decide))) h2)).2;rw [za0] at this;exact dT this
theorem zrY {s:Nat} (h:s≠0):∃ j,s.testBit j=true:=by
 refine Jp fun hn=>h (Kc fun j=>?_);rw [QE]
 cases hb:s.testBit j with
 | false=>rfl
 | true=>exact (hn ⟨j,hb⟩).elim
theorem zrf (hrf:RelOk x.ev.length x.rf):zaf x=true↔(∀ a b,a<x.ev.length->b<x.ev.length->z3 x.rf a b=true->isW x a=true/\isR x b=true/\(evA x a).l=(evA x b).l/\(evA x a).v=(evA x b).v) /\
  ∀ b,b<x.ev.length->isR x b=true->(∃ j,j<x.ev.length/\z3 x.rf j b=true)/\∀ i j,i<x.ev.length->j<x.ev.length->z3 x.rf i b=true->z3 x.rf j b=true->i=j:=by
 have h48:=hrf.le;have bk:∀ i,i<x.ev.length->∀ j,((zN x.rf).to i).testBit j=(decide (j<x.ev.length)&&z3 x.rf j i):=fun i hi j=>zdn hrf (by omega);have w64:∀ i,i<x.ev.length->(zN x.rf).to i<2^64:=fun i hi=>hrf.back.w i (by omega);unfold zaf;rw [Qk];constructor
 ·intro h;have one:∀ b,b<x.ev.length->∀ a,z3 x.rf a b=true->a<x.ev.length->(evA x b).k=1/\a=ctz ((zN x.rf).to b)/\(evA x a).k=2/\(evA x a).l=(evA x b).l/\(evA x a).v=(evA x b).v:=fun b hb a hab ha=>by
   have h1:=h b (Uo.2 hb);have hbit:((zN x.rf).to b).testBit a=true:=by rw [bk b hb,hab,Us ha];rfl
   have h0:¬ (zN x.rf).to b=0:=fun e=>by rw [e,QE] at hbit;cases hbit
   unfold zbG at h1;by_cases hk:(evA x b).k=1
   ·rw [Gp hk,Gn h0] at h1;by_cases hs:(zN x.rf).to b=2^ctz ((zN x.rf).to b)
    ·rw [Gp hs] at h1;have hz:a=ctz ((zN x.rf).to b):=by
      rw [hs,za0] at hbit;exact dT hbit
     rw [<- hz] at h1;simp only [bAT,dE] at h1;exact⟨hk,hz,h1⟩
    ·rw [Gn hs] at h1;cases h1
   ·rw [Gn hk] at h1;exact (h0 (dT h1)).elim
  refine⟨fun a b ha hb hab=>?_,fun b hb hr=>⟨?_,fun i j hi hj h1 h2=>?_⟩⟩
  ·obtain⟨h1,_,h3,h4⟩:=one b hb a hab ha;exact⟨Us h3,Us h1,h4⟩
  ·have h1:=h b (Uo.2 hb);unfold zbG at h1;rw [Gp (dT hr:(evA x b).k=1)] at h1;by_cases h0:(zN x.rf).to b=0
   ·rw [Gp h0] at h1;cases h1
   ·obtain⟨j,hj⟩:=zrY h0;rw [bk b hb,bAT,dE] at hj;exact⟨j,hj⟩
  ·exact (one b hb i h1 hi).2.1.trans (one b hb j h2 hj).2.1.symm
 ·rintro⟨h1,h2⟩ b hb;have hb:=Uo.1 hb;unfold zbG;by_cases hk:(evA x b).k=1
  ·rw [Gp hk];obtain⟨⟨j,hj,hj1⟩,hu⟩:=h2 b hb (Us hk);have hs:(zN x.rf).to b=2^j:=Kc fun i=>by
    rw [bk b hb,za0];by_cases hij:i=j
    ·rw [hij,hj1,Us hj,Us rfl];rfl
    ·rw [Uh hij]
     cases hi:z3 x.rf i b with
     | false=>rw [Ui]
     | true =>
      by_cases hin:i<x.ev.length
      ·exact (hij (hu i j hin hj hi hj1)).elim
      ·rw [Uh hin];rfl
   have hz:ctz ((zN x.rf).to b)=j:=by rw [hs];exact zqk (by omega)
   have h0:¬ (zN x.rf).to b=0:=by rw [hs];exact Nat.ne_of_gt (Nat.pow_pos (by decide))
   rw [Gn h0,hz,Gp hs];obtain⟨a1,_,a3,a4⟩:=h1 j b hj hb hj1;rw [Us (dT a1:(evA x j).k=2),Us a3,Us a4];rfl
  ·rw [Gn hk];refine Us (Kc fun j=>?_);rw [bk b hb,QE];by_cases hj:j<x.ev.length
   ·cases hjb:z3 x.rf j b with
    | false=>rw [Ui]
    | true=>exact (hk (dT (h1 j b hj hb hjb).2.1)).elim
   ·rw [Uh hj];rfl
end
section
variable {x:ExD}
structure DepOne (x:ExD) (k:Nat):Prop where
 w:∀ j,z3 x.dt k j=true\/z3 x.rm k j=true->isW x j=true
 p:∀ j,z3 x.dt k j=true\/z3 x.ct k j=true\/z3 x.rm k j=true->isR x k=true/\z3 x.po k j=true
 u:∀ i j,z3 x.rm k i=true->z3 x.rm k j=true->i=j
 l:∀ j,z3 x.rm k j=true->(evA x j).l=(evA x k).l
end
def twl (s:List Nat) (i:Nat):List Nat:=s.takeWhile fun y => !decide (y=i)
theorem zcI (a:Nat) (s:List Nat) (i:Nat):twl (a::s) i=if a=i then [] else a::twl s i:=by
 unfold twl;rw [Ko];by_cases h:a=i
 ·rw [Gp h,Gn (by simp [h])]
 ·rw [Gn h,Gp (by simp [h])]
theorem zfy:∀ {s:List Nat} {i j:Nat},j∈twl s i->j∈s/\j≠i
 | [],i,j,h=>by cases h
 | a::s,i,j,h=>by
  rw [zcI] at h;by_cases ha:a=i
  ·rw [Gp ha] at h;cases h
  ·rw [Gn ha] at h;rcases UC.1 h with rfl | h
   ·exact⟨KA,ha⟩
   ·exact⟨JY _ (zfy h).1,(zfy h).2⟩
theorem zha:∀ {s:List Nat} {i j k:Nat},j∈twl s i->k∈twl s j->k∈twl s i
 | [],i,j,k,h,_=>by cases h
 | a::s,i,j,k,h1,h2=>by
  rw [zcI] at h1 h2 ⊢;by_cases ha:a=i
  ·rw [Gp ha] at h1;cases h1
  ·rw [Gn ha] at h1 ⊢;by_cases hb:a=j
   ·rw [Gp hb] at h2;cases h2
   ·rw [Gn hb] at h2;rcases UC.1 h2 with rfl | h2
    ·exact KA
    ·rcases UC.1 h1 with h1 | h1
     ·exact (hb h1.symm).elim
     ·exact JY _ (zha h1 h2)
theorem zgo:∀ (l:List Nat) (f:Nat->Nat) (b:Nat),l.Nodup->∀ i j,(zgp l f b i).testBit j=if i∈l then (b.testBit j||decide (j∈twl l i)) else (f i).testBit j
 | [],f,b,_,i,j=>by rw [Gn Qw];rfl
 | a::l,f,b,hn,i,j=>by
  have hn2:=QV.1 hn;show (zgp l (upd f a b) (b|||2^a) i).testBit j=_;rw [zgo l _ _ hn2.2,zcI];by_cases hia:i=a
  ·subst hia;rw [Gn hn2.1,Gp KA,zK,Gp rfl];simp
  ·rw [Gn (show ¬ a=i from fun e=>hia e.symm)];by_cases hi:i∈l
   ·rw [Gp hi,Gp (JY _ hi),Ur,za0,Bool.or_assoc];congr 1;rw [Bool.eq_iff_iff,QH,dE,dE,dE,UC]
   ·rw [Gn hi,Gn (fun h=>by rcases UC.1 h with h | h;exact hia h;exact hi h),qr _ _ hia]
theorem zgu {key:Nat->Nat} {y:Nat}:∀ {r:List Nat},r.Pairwise (fun a b=>key a<=key b)->(ja key r y).Pairwise (fun a b=>key a<=key b)
 | [],_=>List.pairwise_singleton _ _
 | z::r,h=>by
  have h2:=List.pairwise_cons.1 h;unfold ja
  split
  ·rename_i hlt;refine List.pairwise_cons.2 ⟨fun a ha=>?_,zgu h2.2⟩;rcases (zdK r).1 ha with rfl | ha
   ·omega
   ·exact h2.1 a ha
  ·rename_i hlt;refine List.pairwise_cons.2 ⟨fun a ha=>?_,h⟩;rcases UC.1 ha with rfl | ha
   ·omega
   ·have:=h2.1 a ha;omega
theorem zlw {key:Nat->Nat}:∀ (l acc:List Nat),acc.Pairwise (fun a b=>key a<=key b)->(l.foldl (fun acc x=>ja key acc x) acc).Pairwise (fun a b=>key a<=key b)
 | [],_,h=>h
 | y::l,acc,h=>zlw l _ (zgu h)
theorem zh1 (key:Nat->Nat) (l:List Nat):(zb0 key l).Pairwise (fun a b=>key a<=key b):=zlw l [] .nil
theorem zmw {key:Nat->Nat} {l:List Nat} {a:Nat}:a∈zb0 key l↔a∈l:=by
 have:a∈(zb0 key l).reverse↔a∈l:=zhh
 rwa [List.mem_reverse] at this
theorem ze7 {key:Nat->Nat}:∀ {s:List Nat},s.Pairwise (fun a b=>key a<=key b)->s.Nodup->(∀ a b,a∈s->b∈s->a≠b->key a≠key b)->s.Pairwise (fun a b=>key a<key b)
 | [],_,_,_ => .nil
 | a::s,h,hn,hi=>by
  have h2:=List.pairwise_cons.1 h;have hn2:=QV.1 hn;refine List.pairwise_cons.2 ⟨fun b hb=>?_,ze7 h2.2 hn2.2 fun c d hc hd=>hi c d (JY _ hc) (JY _ hd)⟩;have h3:=h2.1 b hb;have h4:=hi a b KA (JY _ hb) (fun e=>hn2.1 (by rw [e];exact hb));omega
theorem zmd {f g:Nat->Bool}:∀ {n:Nat},(∀ i,i<n->f i=true->g i=true->False)->zet f n+zet g n=zet (fun i=>f i||g i) n
 | 0,_=>rfl
 | n+1,h=>by
  have ih:=zmd (f:=f) (g:=g) (n:=n) fun i hi=>h i (by omega);have:=h n (QB _);rw [zcc,zcc,zcc,<- ih]
  cases hf:f n <;> cases hg:g n <;> simp [hf,hg] at this ⊢ <;> omega
theorem zoQ {a:Nat}:∀ {n:Nat},a<n->zet (fun b=>decide (b=a)) n=1
 | 0,h=>Gq h (Ub _)
 | n+1,h=>by
  rw [zcc];by_cases e:n=a
  ·subst e;rw [Gp (Us rfl),zoO fun k hk=>Uh (by omega)]
  ·rw [Gn (by simp [e]),zoQ (by omega)]
theorem zj3 {f g:Nat->Bool}:∀ {n:Nat},(∀ i,i<n->f i=true->g i=true)->zet f n<=zet g n
 | 0,_=>UW _
 | n+1,h=>by
  have ih:=zj3 (f:=f) (g:=g) (n:=n) fun i hi=>h i (by omega);have:=h n (QB _);rw [zcc,zcc]
  cases hf:f n <;> cases hg:g n <;> simp [hf,hg] at this ⊢ <;> omega
theorem zk8 {f g:Nat->Bool} {n j:Nat} (h:∀ i,i<n->f i=true->g i=true) (hj:j<n) (h1:f j=false) (h2:g j=true):zet f n<zet g n:=by
 have e:=zmd (f:=f) (g:=fun b=>decide (b=j)) (n:=n) fun i hi hf hd=>by
  have:i=j:=dT hd;rw [this,h1] at hf;cases hf
 rw [zoQ hj] at e;have:=zj3 (f:=fun i=>f i||decide (i=j)) (g:=g) (n:=n) fun i hi hor=>by
  rw [QH,dE] at hor;rcases hor with h3 | h3
  ·exact h i hi h3
  ·rw [h3];exact h2
 omega
theorem zjH (s:Nat):zbv s=zet (fun j=>s.testBit j) 64:=rfl
section
variable {x:ExD}
abbrev sG (x:ExD) (l:Nat):List Nat:=zb0 (zbw x) (z9 x l)
theorem znQ (l:Nat):(sG x l).Nodup:=by
 have:=zkK (x:=x) l;exact (List.reverse_perm _).nodup_iff.1 this
theorem znZ (l:Nat):zQ x l=(sG x l).reverse:=rfl
theorem zfF {l a:Nat}:a∈z9 x l↔a<x.ev.length/\isW x a=true/\(evA x a).l.toNat=l:=by
 unfold z9 isW;rw [QT,Uo,bAT,dE,dE]
def znX (x:ExD):Nat->Nat->RelD×(Nat->UInt8)->RelD×(Nat->UInt8)
 | 0,_,p=>p
 | m+1,l,p=>znX x m (l+1) (j7 (zQ x l) p.1,upd p.2 l (zdu x.ev (zQ x l)))
theorem zj1:∀ (m l:Nat) (p q:RelD×(Nat->UInt8)),zg3 x m l p=some q↔(∀ k,l<=k->k<l+m->(zQ x k).headD 48=k)/\q=znX x m l p
 | 0,l,p,q=>⟨fun h=>⟨fun k h1 h2=>by omega,(Uf h).symm⟩,fun h=>by rw [h.2];rfl⟩
 | m+1,l,p,q=>by
  unfold zg3;by_cases hd:(zQ x l).headD 48=l
  ·rw [Gp hd,zj1 m (l+1)];refine⟨fun h=>⟨fun k h1 h2=>?_,h.2⟩,fun h=>⟨fun k h1 h2=>h.1 k (by omega) (by omega),h.2⟩⟩;by_cases hk:k=l
   ·rw [hk];exact hd
   ·exact h.1 k (by omega) (by omega)
  ·rw [Gn hd];exact⟨fun h=>(by cases h),fun h=>(hd (h.1 l (UW _) (by omega))).elim⟩
end
def fct:Nat->Nat
 | 0=>1
 | n+1=>(n+1)*fct n
theorem zdg:∀ n,1<=fct n
 | 0=>UW _
 | n+1=>Nat.mul_pos (Nat.succ_pos n) (zdg n)
theorem zel {a b:Nat} (h:a<=b):fct a<=fct b:=by
 induction b with
 | zero=>rw [Nat.le_zero.1 h];exact UW _
 | succ b ih =>
  rcases Nat.lt_or_ge b a with h1 | h1
  ·rw [show a=b+1 by omega];exact UW _
  ·refine UM (ih h1) ?_;show fct b<=(b+1)*fct b;exact Nat.le_mul_of_pos_left _ (Nat.succ_pos b)
theorem zaU (s:Nat):(els s).Nodup:=by
 unfold els;exact List.Pairwise.filter _ List.nodup_range
theorem zem (before:Nat->Nat):∀ (n left:Nat) (l x:List Nat),left<2^64->x∈jV before n left l->∃ s,x=l++s/\s.Perm (els left)/\∀ a t,s=a::t->before a&&&left=0
 | 0,left,l,x,hl,h=>by
  unfold jV at h
  split at h
  ·rename_i h0;rw [KB] at h;exact⟨[],by rw [h,QK],by rw [h0,jW],fun a t e=>by cases e⟩
  ·cases h
 | n+1,left,l,x,hl,h=>by
  unfold jV at h
  split at h
  ·rename_i h0;rw [KB] at h;exact⟨[],by rw [h,QK],by rw [h0,jW],fun a t e=>by cases e⟩
  ·obtain⟨a,ha,h⟩:=List.mem_flatMap.1 h
   split at h
   ·rename_i hb;obtain⟨s,hs,hp,_⟩:=zem before n _ _ x (jM hl) h;rw [zac hl ha] at hp;refine⟨a::s,by rw [hs,KQ];rfl,?_,fun b t e=>by cases e;exact hb⟩;refine (List.Perm.cons a hp).trans ?_;have hn:=zaU left;generalize els left=L at ha hn;clear hp hs h hl
    induction L with
    | nil=>cases ha
    | cons y r ih =>
     have hn2:=QV.1 hn;rcases UC.1 ha with e | e
     ·subst e;rw [Qo,Gn (by simp),List.filter_eq_self.2 fun z hz=>by
       have:z≠a:=fun e=>hn2.1 (by rw [<- e];exact hz);simp [this]]
     ·have hya:y≠a:=fun e2=>hn2.1 (by rw [e2];exact e);rw [Qo,Gp (by simp [hya])];exact (List.Perm.swap y a _).trans (List.Perm.cons y (ih e hn2.2))
   ·cases h
theorem zl1 {α β:Type} {f:α->List β} {b:Nat}:∀ {l:List α},(∀ a∈l,(f a).length<=b)->(l.flatMap f).length<=l.length*b
 | [],_=>by simp
 | a::l,h=>by
  rw [KT,lap,Qt,UQ];have:=h a KA;have:=zl1 (l:=l) fun x hx=>h x (JY _ hx);omega
theorem zhF (before:Nat->Nat):∀ (n left:Nat) (l:List Nat),left<2^64->(jV before n left l).length<=fct (els left).length
 | 0,left,l,hl=>by
  unfold jV
  split
  ·exact zdg _
  ·exact UZ _
 | n+1,left,l,hl=>by
  unfold jV
  split
  ·exact zdg _
  ·have hne:(els left).length=0\/∃ m,(els left).length=m+1:=by
    cases (els left).length with
    | zero=>exact .inl rfl
    | succ m=>exact .inr ⟨m,rfl⟩
   rcases hne with h0 | ⟨m,hm⟩
   ·rw [List.length_eq_zero_iff.1 h0];exact UZ _
   ·rw [hm];refine UM (zl1 (b:=fct m) fun a ha=>?_) (by rw [hm];exact UW _)
    split
    ·refine UM (zhF before n _ _ (jM hl)) (zel ?_);have:=j4 hl ha;rw [zaz];omega
    ·exact UZ _
theorem zcb {f:Nat->List (List Nat)}:∀ {l:List Nat},l.Nodup->(∀ a∈l,a≠0->f a=[])->(l.flatMap f).length<=(f 0).length
 | [],_,_=>UZ _
 | a::l,hn,h=>by
  have hn2:=QV.1 hn;rw [KT,lap];by_cases e:a=0
  ·subst e;have:l.flatMap f=[]:=List.flatMap_eq_nil_iff.2 fun x hx=>h x (JY _ hx) fun e=>hn2.1 (by rw [<- e];exact hx);rw [this];exact UW _
  ·rw [h a KA e];have:=zcb hn2.2 fun x hx=>h x (JY _ hx);simpa using this
section
variable {n:Nat}
theorem ziF (hn:n<=48):RelOk n (crs n):=⟨rfl,zoL n hn,fun i hi=>zma n i hi⟩
theorem zgM (hn:n<=48) {a:Nat} (ha:a<n) (h0:a≠0):((zN (crs n)).to a).testBit 0=true:=by
 have h:=zdn (ziF hn) (i:=a) (j:=0) (by omega);unfold z3 at h;rw [h,Us (by omega),Uy];show (if 0<n then (if Nat.testBit 1 0 then zaA (jv n) 1&&&jv n else 0) else 0).testBit a=true;rw [Gp (by omega),Gp (by decide),Uc];have hb:(jv n).testBit a=true:=by
  rw [zaj,zbz (by omega) (by omega) (by omega)];exact Us (by omega)
 rw [hb,Bool.and_true,zaz];have:qX (jv n) 1=qX (jv n) (2^0):=rfl;rw [this,zbk (by decide) (by omega),hb,Kq];simp;omega
theorem zga (h1:1<=n) (hn:n<=48) {o:List Nat} (h:o∈za9 (crs n)):o.Perm (List.range n)/\∃ t,o=0::t:=by
 unfold za9 at h
 split at h
 ·obtain⟨s,hs,hp,hf⟩:=zem _ _ _ _ _ (zdo n) h;rw [QU] at hs;subst hs;have e:els (jv ((n:Nat):Int))=List.range n:=by rw [zaj];exact zdi (by omega)
  have hp:o.Perm (List.range n):=by rw [<- e];exact hp
  refine⟨hp,?_⟩
  cases o with
  | nil=>have:=hp.length_eq;simp at this;omega
  | cons a t =>
   by_cases h0:a=0
   ·exact⟨t,by rw [h0]⟩
   ·have ha:a<n:=Uo.1 (hp.subset KA);have h2:=hf a t rfl;have h3:=zgM hn ha h0;have h4:(jv ((n:Nat):Int)).testBit 0=true:=by
     rw [zaj,zbz (by omega) (by omega) (by omega)];exact Us (by omega)
    have h5:((zN (crs n)).to a&&&jv ((n:Nat):Int)).testBit 0=true:=(by rw [Uc,h3,h4];rfl);have h6:((zN (crs n)).to a&&&jv ((n:Nat):Int))=0:=h2;rw [h6] at h5;simp at h5
 ·cases h
theorem zmP (h1:1<=n) (hn:n<=48):(za9 (crs n)).length<=fct (n-1):=by
 unfold za9
 split
 ·have e:els (jv ((n:Nat):Int))=List.range n:=by rw [zaj];exact zdi (by omega)
  have e0:(0:Nat)∈els (jv ((n:Nat):Int)):=by rw [e];exact Uo.2 (by omega)
  show (jV (zN (crs n)).to 64 (jv ((n:Nat):Int)) []).length<=_;unfold jV
  split
  ·exact zdg _
  ·refine UM (zcb (zaU _) fun a ha h0=>?_) ?_
   ·have ha:a<n:=(by rw [e] at ha;exact Uo.1 ha);refine Gn fun h2=>?_;have h3:=zgM hn ha h0;have h4:(jv ((n:Nat):Int)).testBit 0=true:=by
     rw [zaj,zbz (by omega) (by omega) (by omega)];exact Us (by omega)
    have h5:((zN (crs n)).to a&&&jv ((n:Nat):Int)).testBit 0=true:=(by rw [Uc,h3,h4];rfl);rw [h2] at h5;simp at h5
   ·split
    ·refine UM (zhF _ _ _ _ (jM (zdo n))) (zel ?_);have h6:=j4 (zdo n) e0;rw [e,KW] at h6;rw [zaz];omega
    ·exact UZ _
 ·exact UZ _
end
theorem zm0 (w:List Nat):(List.range w.length).map (fun k=>w.getD k 0)=w:=by
 apply KR;intro i;rw [KV];by_cases h:i<w.length
 ·rw [Ki h,gE h];show some (w.getD i 0)=_;rw [gDe,gE h];rfl
 ·rw [JK (by simpa using h),JK (by simpa using h)];rfl
theorem zhn {w rk:List Nat} (h1:1<=w.length) (hn:w.length<=48) (h:rk∈zF w):rk.Perm w/\rk.headD 48=w.headD 48:=by
 unfold zF at h;dsimp only at h
 split at h
 ·obtain⟨o,ho,rfl⟩:=UJ.1 h;obtain⟨hp,t,ht⟩:=zga h1 hn ho;refine⟨?_,?_⟩
  ·have:=hp.map fun k=>w.getD k 0;rw [zm0] at this;exact this
  ·rw [ht];show w.getD 0 0=_
   cases w with
   | nil=>simp at h1
   | cons a r=>rfl
 ·cases h
theorem zf0 {w:List Nat} (h1:1<=w.length) (hn:w.length<=48):(zF w).length<=fct (w.length-1)/\(zF w).length<=10000:=by
 unfold zF;dsimp only
 split
 ·rename_i h;rw [QN];exact⟨zmP h1 hn,h⟩
 ·exact⟨UZ _,UZ _⟩
theorem zqz {b o:Nat} {w:Wd}:Calls PG 27 #[.pointer (some ⟨b,o,none⟩)] w fun e w'=>e = .returned (.func (.func 47) #[] #[At0 w.heap.size])/\w'.heap[w.heap.size]?=some (.cells #[.pointer (some ⟨b,o,none⟩)] 126 (0,0))/\w'.heap.size=w.heap.size+1/\Bw w w':=by
 refine zH 4 [.pointer (some ⟨b,o,none⟩)] Tryz.func27 ?_;exact⟨rfl,zy w _,wz _ _,(zba w _)⟩
def zqK (B:Nat) (F:Nat->Prop) (Y:Wd) (x:zbX):Prop:=OwnS evE 60 B Y x.2.1 x.2.2 x.1.ev/\∀ a,x.2.1=some a->F a.block
theorem zeS (B:Nat):zhS 55 30 (zqK B):=by
 rintro F G Y Z x ⟨h1,h2⟩ hs hg;refine⟨h1.same fun a ha=>?_,fun a ha=>hg _ (h2 a ha)⟩;obtain⟨_,_,cur,hc⟩:=zq h1 ha;exact hs _ cur _ (h2 a ha) hc (by decide) (by decide)
theorem zko {B B1 bx c0:Nat} {p0:OA} {l0:List zbX} {xs:List ExD} {w W0:Wd} {Rd:Nat->Prop} {pm:Value} (ho:OwnS exE 55 B w p0 c0 l0) (hn:∀ x∈l0,OwnS evE 60 B w x.2.1 x.2.2 x.1.ev) (hB:B<=w.heap.size)
  (hI:zpi PG 47 [At0 bx] xs W0 Rd (StX B1) GvX) (hW0:W0.heap.size<=w.heap.size) (hRd:∀ k,Rd k->k<W0.heap.size/\w.heap[k]?=W0.heap[k]?) (hRB:∀ k,Rd k->k<B\/k=bx) (fb:w.heap[bx]?=some (.cells #[pm] 126 (0,0))) (hB1:B<=B1) (hlen:l0.length+xs.length<=30000) :
  Calls PG 26 #[.slice p0 l0.length c0,.func (.func 47) #[] #[At0 bx]] w fun e w'=>(∃ (new:List zbX) (p:OA) (c:Nat),e = .returned (.slice p (l0++new).length c)/\new.map (·.1)=xs/\OwnS exE 55 B w' p c (l0++new)/\∀ x∈l0++new,OwnS evE 60 B w' x.2.1 x.2.2 x.1.ev)/\Below B w w':=by
 refine jf 13 [.slice p0 l0.length c0,.func (.func 47) #[] #[At0 bx]] (.c .p .p) Tryz.func26 ?_;obtain⟨L,hL⟩:=nm (w.heap.size);refine⟨Unit,fun _=>⟨[(1,.func (.func 47) #[] #[At0 bx]),(2,At0 L)],[]⟩,fun _ X=>X.heap[L]?=some (.cells [.slice p0 l0.length c0].toArray 30 (0,0))/\X.heap.size=L+1/\Bw w X,?_,?_⟩
 ·exact⟨(),⟨.cons rfl (.cons (by rw [hL];rfl) .nil),rfl⟩,by rw [hL];exact zy w _,by rw [hL];exact wz _ _,(zba w _)⟩
 rintro _ W ⟨fL,sW,hbW⟩;have hbxw:=hlt fb;obtain⟨F0,hF0⟩:∃ F0:Nat->Prop,F0=fun k=>k=L\/(∃ a,p0=some a/\k=a.block)\/∃ x∈l0,∃ a,x.2.1=some a/\k=a.block:=⟨_,rfl⟩;have hF0B:∀ k,F0 k->B<=k/\k<W.heap.size/\(k≠L->k≠bx):=by
  intro k hk;rw [hF0] at hk;rcases hk with rfl | ⟨a,ha,rfl⟩ | ⟨x,hx,a,ha,rfl⟩
  ·exact⟨by omega,by omega,fun h=>(h rfl).elim⟩
  ·obtain⟨h1,h2,cur,h3⟩:=zq ho ha;exact⟨h1,by omega,fun _ e=>by rw [e,fb] at h3;simp at h3⟩
  ·obtain⟨h1,h2,cur,h3⟩:=zq (hn x hx) ha;exact⟨h1,by omega,fun _ e=>by rw [e,fb] at h3;simp at h3⟩
 have hG0:Gath exE 55 30 B W.heap.size L W (zqK B) l0 F0 W:=by
  refine⟨UW _,by rw [hF0];exact .inl rfl,fun k hk=>(hF0B k hk).2.1,⟨p0,c0,fL,ho.below hbW,fun a ha=>by rw [hF0];exact .inr (.inl ⟨a,ha,rfl⟩)⟩,fun x hx=>⟨(hn x hx).below hbW,fun a ha=>by rw [hF0];exact .inr (.inr ⟨x,hx,a,ha,rfl⟩)⟩,Gb _ _⟩
 refine zrj (zbe _) rfl (lb := #[At0 bx]) rfl rfl hI (fun pre vs W k ⟨x,q,c,h1,h2,h3⟩ ⟨x',a,c',h4,h5⟩=>?_) (by have:=hbW.size;omega) (fun k hk=>⟨(hRd k hk).1,?_⟩) (fun pre vs W ⟨x,q,c,_,h,_⟩=>by rw [h];rfl) (by decide)
  F0 (fun pre F Y=>∃ xs',(∃ new,xs'=l0++new/\new.map (·.1)=pre/\new.length<=xs.length)/\Gath exE 55 30 B W.heap.size L W (zqK B) xs' F Y) (fun k hk=>?_) (Gath.iter (zeS B) (by omega)) ⟨l0,⟨[],by simp,rfl,UZ _⟩,hG0⟩ ?_ ?_
 ·rw [h2] at h4;have h6:exC x q c=exC x' (some a) c':=by
   have h7:=Value.agg.inj (Jy h4);simpa using h7
  have h8:Value.slice q x.ev.length c=Value.slice (some a) x'.ev.length c':=Jy h6;have h9:q=some a:=by injection h8
  obtain⟨_,_,cur,hc⟩:=zq h3 h9;rw [h5];exact⟨_,_,_,hc⟩
 ·rw [<- (hRd k hk).2];exact hbW.block k (by have:=(hRd k hk).1;omega)
 ·intro h;obtain⟨h1,h2,h3⟩:=hF0B k h;have h4:=(hRd k hk).1;rcases hRB k hk with h5 | h5
  ·omega
  ·exact h3 (by omega) h5
 ·rintro yl pre x vs F Y hyl hpre ⟨xs',⟨new,rfl,hnew',hnl⟩,hG⟩ ⟨x',q,c,hlast,rfl,oq⟩ hgv hfy ⟨lo,hlo⟩;have hxx:x=x':=by simpa using hlast
  subst hxx;have hYs:=hG.size;refine zn (X:=Y) (v := .agg (exC x q c).toArray) k55 (zC _ _ _) zX (zbf _ _ _) fun Z hbZ fZ sZ=>?_;have fZ:ExH Z Y.heap.size x q c:=fZ;obtain⟨F1,hF1⟩:∃ F1:Nat->Prop,F1=fun k=>F k\/GvX [.agg (exC x q c).toArray] k:=⟨_,rfl⟩;rw [<- hF1];have hq1:∀ a,q=some a->F1 a.block:=fun a ha=>by
   rw [hF1];exact .inr ⟨x,a,c,by rw [ha],rfl⟩
  have hgq:∀ k,GvX [.agg (exC x q c).toArray] k->∃ a,q=some a/\k=a.block:=by
   rintro k ⟨x',a,c',h4,h5⟩;have h6:exC x q c=exC x' (some a) c':=by
    have h7:=Value.agg.inj (Jy h4);simpa using h7
   have h8:Value.slice q x.ev.length c=Value.slice (some a) x'.ev.length c':=Jy h6;have h9:q=some a:=by injection h8
   exact⟨a,h9,h5⟩
  have hlt1:∀ k,F1 k->k<Y.heap.size:=fun k hk=>by
   rw [hF1] at hk;rcases hk with hk | hk
   ·exact hG.lt k hk
   ·obtain⟨a,ha,rfl⟩:=hgq k hk;exact (zq oq ha).2.1
  have hFF:∀ k,F k->F1 k:=fun k hk=>by rw [hF1];exact .inl hk
  have hG1:Gath exE 55 30 B W.heap.size L W (zqK B) (l0++new) F1 Z:=by
   obtain⟨p,c',h1,h2,h3⟩:=hG.row;have sZ:=hbZ.size;exact⟨by omega,hFF _ hG.inL,fun k hk=>by have:=hlt1 k hk;omega,⟨p,c',zb hbZ h1,h2.below hbZ,fun a ha=>hFF _ (h3 a ha)⟩,fun y hy=>⟨(hG.nest y hy).1.below hbZ,fun a ha=>hFF _ ((hG.nest y hy).2 a ha)⟩,hG.old.trans (hbZ.mono (by omega))⟩
  refine⟨rfl,F1,KeepsG.below hbZ fun k hk => .inl hk,⟨_,⟨new,rfl,hnew',hnl⟩,hG1⟩,?_⟩;rintro O Y2 hY2 ⟨xs2,⟨new2,rfl,hnew2,hnl2⟩,hG2⟩;clear hG1 hnew' hnl hG;have hYl:=hlt hlo;have fY:ExH Y2 Y.heap.size x q c:=by rw [hY2];exact (zg (by omega)).trans fZ
  have oq2:OwnS evE 60 B1 Y2 q c x.ev:=by
   rw [hY2];refine (oq.below hbZ).same fun a ha=>zg fun e=>?_;obtain⟨_,_,cur,hc⟩:=zq oq ha;rw [e,hlo] at hc
   cases hc
  obtain⟨p,c',h4,h5,h6⟩:=hG2.row;refine⟨_,zc (za h4) (i:=0) rfl,exC x q c,zC _ _ _,za fY,hlt fY,?_⟩;obtain⟨nx,hnx⟩:∃ nx:zbX,nx=(x,q,c):=⟨_,rfl⟩;have hen:exC x q c=exE.enc nx:=by rw [hnx];rfl
  have hpl:pre.length<xs.length:=by
   obtain⟨t,ht⟩:=hpre;rw [<- ht];simp only [lap,Qt];omega
  have hn2:new2.length=pre.length:=by rw [<- hnew2,QN]
  refine⟨⟨by decide,by decide,zX⟩,exE.enc nx,by rw [<- hen];exact za4 (zC _ _ _) zX,?_⟩;have hw2:W.heap.size<=Y2.heap.size:=hG2.size;obtain⟨v,Y5,hrun,S,hrun2,F',hG',hK',hFF'⟩:=hG2.stepX (P:=PG) (ty:=30) (cap1:=1) (zeS B) (by decide) Tryz.underlying30 k55 rfl rfl (by show _=333;exact zX) k30 rfl (by omega) (by omega) (Gb _ _) nx (by rw [lap];omega) (by rw [lap];show (_+1)*2416<=_;omega)
   (fun G Z _ _ h3 h4=>zeS B F1 G Y2 Z nx ⟨by rw [hnx];exact oq2.lower hB1,fun a ha=>by rw [hnx] at ha;exact hq1 a ha⟩ h3 h4) p c' h4
  unfold zdE zam;exact SatR.mk hrun (SatR.mk hrun2 ⟨F',⟨_,⟨new2++[nx],by rw [KQ],by rw [QR,hnew2,hnx];rfl,by rw [lap];show _+1<=_;omega⟩,hG'⟩,hK'⟩)
 ·rintro D F Y hD hfD ⟨xs',⟨new,rfl,hnew',hnl⟩,hG⟩ hdef;obtain⟨p,c',h4,h5,h6⟩:=hG.row;refine⟨_,zc (za h4) (i:=0) rfl,_,rfl,hdef,?_⟩;have kp:∀ a:Addr,F a.block->(Y.putObj D (.deferred none)).heap[a.block]?=Y.heap[a.block]?:=fun a h2=>zg fun e=>by rw [<- e] at hfD;exact hfD h2
  exact⟨⟨new,p,c',rfl,hnew',h5.same fun a ha=>kp a (h6 a ha),fun x hx=>(hG.nest x hx).1.same fun a ha=>kp a ((hG.nest x hx).2 a ha)⟩,qQ ((hbW.mono hB).trans hG.old) (by omega) _⟩
end Go.Proofs.YtpalcnbhkigagaaGreatDoor
namespace Go.Sei
def za3 (ns:List Nat):Nat:=ns.foldl (· * ·) 1
theorem zf2 (ns:List Nat) (n:Nat):za3 (ns++[n])=za3 ns*n:=by
 unfold za3;rw [KU];rfl
def zkU (init:List UInt8) (Ts:List (List PathD)):List MixD:=(z7 (Ts.map List.length)).filterMap fun ds=>zcR init (qt Ts ds)
theorem zdD:∀ (Ts:List (List PathD)) (ds:List Nat) (T:List PathD) (d:Nat),Ts.length=ds.length->qt (Ts++[T]) (ds++[d])=qt Ts ds++(match T[d]? with | some P=>[P] | none=>[])
 | [],[],T,d,_=>by
  show (match T[d]? with | some P=>[P] | none=>[])++[]=_;rw [QK];rfl
 | [],_::_,_,_,h=>by simp at h
 | _::_,[],_,_,h=>by simp at h
 | A::Ts,e::ds,T,d,h=>by
  show (match A[e]? with | some P=>[P] | none=>[])++qt (Ts++[T]) (ds++[d])=((match A[e]? with | some P=>[P] | none=>[])++qt Ts ds)++_;rw [zdD Ts ds T d (by simpa using h),KQ]
theorem zkN (ns:List Nat) (n:Nat):zS (ns++[n])=zS ns*n:=by
 rw [zbj];show _*(n*1)=_;rw [UX]
theorem zdf:∀ (ns:List Nat) (a:Nat),ns.foldl (· * ·) a=a*zS ns
 | [],a=>(UX a).symm
 | n::ns,a=>by
  show ns.foldl (· * ·) (a*n)=a*(n*zS ns);rw [zdf ns,UE]
theorem zc6:∀ ns:List Nat,zS ns.reverse=za3 ns:=fun ns=>by
 have h:∀ l:List Nat,zS l.reverse=zS l:=fun l=>by
  induction l with
  | nil=>rfl
  | cons n l ih =>
   rw [KX,zkN,ih];exact UN _ _
 rw [h];unfold za3;rw [zdf,UY]
end Go.Sei
namespace Go.Proofs.YtpalcnbhkigagaaGreatDoor
open Go.Vc Go.RowKit Go.Sei
structure MixX where
 m:MixD
 q:OA
 c:Nat
 p1:OA
 c1:Nat
 p2:OA
 c2:Nat
 p3:OA
 c3:Nat
 xs:List zar
 ys:List zar
def zmZ (x:MixX):List Value:=exC x.m.base x.q x.c++[.slice x.p1 x.m.rs.length x.c1,.slice x.p2 x.xs.length x.c2,.slice x.p3 x.ys.length x.c3]
theorem zog (x:MixX):(zmZ x).length=336:=by
 unfold zmZ;rw [lap,zC];rfl
theorem zjE (x:MixX):(zmZ x).all Value.oneCell'=true:=by
 unfold zmZ;rw [QJ,zbf];rfl
def zgY:Enc MixX:=⟨zmZ,336,zog,by decide,fun a u hu=>Qk.1 (zjE a) u hu⟩
structure NInM (B:Nat) (F:Nat->Prop) (Y:Wd) (x:MixX):Prop where
 e2:x.xs.map (·.1)=x.m.rs.map (·.2)
 e3:x.ys.map (·.1)=x.m.wr
 ev:RowIn evE 60 B F Y x.q x.c x.m.base.ev
 r1:RowIn zw 3 B F Y x.p1 x.c1 (x.m.rs.map (·.1))
 r2:RowIn qW 66 B F Y x.p2 x.c2 x.xs
 n2:∀ y∈x.xs,RowIn zw 3 B F Y y.2.1 y.2.2 y.1
 r3:RowIn qW 66 B F Y x.p3 x.c3 x.ys
 n3:∀ y∈x.ys,RowIn zw 3 B F Y y.2.1 y.2.2 y.1
theorem NInM.same {B:Nat} {F G:Nat->Prop} {Y Z:Wd} {x:MixX} (h:NInM B F Y x) (k:∀ {α:Type} {E:Enc α} {T c:Nat} {q:OA} {l:List α},T≠87->T≠81->T≠4->RowIn E T B F Y q c l->RowIn E T B G Z q c l):NInM B G Z x :=
 ⟨h.e2,h.e3,k (by decide) (by decide) (by decide) h.ev,k (by decide) (by decide) (by decide) h.r1,k (by decide) (by decide) (by decide) h.r2,fun y hy=>k (by decide) (by decide) (by decide) (h.n2 y hy),k (by decide) (by decide) (by decide) h.r3,fun y hy=>k (by decide) (by decide) (by decide) (h.n3 y hy)⟩
theorem NInM.lower {B B':Nat} {F:Nat->Prop} {Y:Wd} {x:MixX} (h:NInM B F Y x) (hB:B'<=B):NInM B' (fun k=>B'<=k) Y x:=by
 have k:∀ {α:Type} {E:Enc α} {T c:Nat} {q:OA} {l:List α},RowIn E T B F Y q c l->RowIn E T B' (fun k=>B'<=k) Y q c l:=fun {α E T c q l} hr=>⟨hr.own.lower hB,fun a ha=>(zq (hr.own.lower hB) ha).1⟩;exact⟨h.e2,h.e3,k h.ev,k h.r1,k h.r2,fun y hy=>k (h.n2 y hy),k h.r3,fun y hy=>k (h.n3 y hy)⟩
theorem zhu (B:Nat):zhS 87 81 (NInM B):=by
 rintro F G Y Z x h hs hg;refine h.same fun {α E T c q l} t1 t2 _ hr=>⟨hr.own.same fun a ha=>?_,fun a ha=>hg _ (hr.inF a ha)⟩;obtain⟨_,_,cur,hc⟩:=zq hr.own ha;exact hs _ cur _ (hr.inF a ha) hc t1 t2
abbrev TpR:=List zc2×OA×Nat
def tpE:Enc TpR where
 sz:=1
 enc x:=[.slice x.2.1 x.1.length x.2.2]
 len x:=rfl
 one x v hv:=by
  simp at hv;subst hv;rfl
 pos:=by decide
structure MxS (B:Nat) (Z:Wd) (L bP:Nat) (ss:List Nat) (ps:OA) (cs:Nat) (ts:List TpR) (pT:OA) (cT:Nat):Prop where
 f0:Z.heap[L]?=some (.cells #[At0 bP] 84 (0,0))
 f1:Z.heap[L+1]?=some (.cells #[.slice none 0 0] 81 (0,0))
 f2:Z.heap[L+2]?=some (.cells #[.bool false] 4 (0,0))
 f3:Z.heap[L+3]?=some (.cells #[.slice pT ts.length cT] 118 (0,0))
 own:OwnS zw 3 B Z ps cs ss
 rk:OwnS tpE 78 B Z pT cT ts
 n1:∀ z∈ts,OwnS jH 73 B Z z.2.1 z.2.2 z.1
 n2:∀ z∈ts,∀ x∈z.1,PthO B Z x
theorem PthO.same {B:Nat} {Y Z:Wd} {x:zc2} (h:PthO B Y x) (k:∀ {α:Type} {E:Enc α} {T c:Nat} {q:OA} {l:List α},T=60\/T=184->OwnS E T B Y q c l->OwnS E T B Z q c l):PthO B Z x :=
 ⟨k (.inl rfl) h.1,k (.inr rfl) h.2.1,k (.inr rfl) h.2.2.1,k (.inr rfl) h.2.2.2⟩
theorem MxS.below {B:Nat} {Z Y:Wd} {L bP:Nat} {ss:List Nat} {ps:OA} {cs:Nat} {ts:List TpR} {pT:OA} {cT:Nat} (h:MxS B Z L bP ss ps cs ts pT cT) (hb:Bw Z Y):MxS B Y L bP ss ps cs ts pT cT :=
 ⟨zb hb h.f0,zb hb h.f1,zb hb h.f2,zb hb h.f3,h.own.below hb,h.rk.below hb,fun z hz=>(h.n1 z hz).below hb,fun z hz x hx=>(h.n2 z hz x hx).same fun {α E T c q l} _ ho=>ho.below hb⟩
theorem MxS.size {B:Nat} {Z Y:Wd} {L bP n:Nat} {ss:List Nat} {ps ps':OA} {cs cs':Nat} {ts:List TpR} {pT:OA} {cT:Nat} (h:MxS B Z L bP ss ps cs ts pT cT) (ho:OwnS zw 3 B Y ps' cs' (ss++[n])) (g:Z.grownBy Y (ps.map Addr.block)):MxS B Y L bP (ss++[n]) ps' cs' ts pT cT :=
 ⟨zZ h.f0 h.own (by decide) g,zZ h.f1 h.own (by decide) g,zZ h.f2 h.own (by decide) g,zZ h.f3 h.own (by decide) g,ho,jZ h.rk h.own (by decide) g,fun z hz=>jZ (h.n1 z hz) h.own (by decide) g,fun z hz x hx=>(h.n2 z hz x hx).same fun {α E T c q l} ht hoo=>jZ hoo h.own (by rcases ht with rfl | rfl <;> decide) g⟩
theorem zs1 {B c:Nat} {V1:Wd} {p:OA} {l:List TpR} {y:TpR} {a:Addr} (ho:OwnS tpE 78 B V1 p c l) (ha:zx V1 a ([y].flatMap tpE.enc)) (hB:B<=V1.heap.size) (hl:l.length<=100000) {K:Value->Wd->Prop}
  (h:∀ p' c' w',OwnS tpE 78 B w' p' c' (l++[y])->V1.grownBy w' (p.map Addr.block)->(∀ a,p'=some a->p=some a\/a.block=V1.heap.size)->K (.slice p' (l++[y]).length c') w') :
  SatR ((Builtin.append_ #[118,118] 118 #[.slice p l.length c,.slice (some a) 1 1]).run PG V1) K :=
 ju (E:=tpE) (T:=78) (B:=B) (l:=l) (news:=[y]) (cap:=c) (m:=1) Tryz.underlying118 k78 rfl rfl rfl ho rfl ha hB (by omega) (by show (l.length+1)*24<=_;omega) fun p' c' w' a1 a2 _ a4=>h p' c' w' a1 (by rw [zag] at a2;exact a2) a4
theorem zs3 {B c:Nat} {V1:Wd} {p:OA} {l:List zc2} {y:zc2} {a:Addr} (ho:OwnS jH 73 B V1 p c l) (ha:zx V1 a ([y].flatMap jH.enc)) (hB:B<=V1.heap.size) (hl:l.length<=100000) {K:Value->Wd->Prop}
  (h:∀ p' c' w',OwnS jH 73 B w' p' c' (l++[y])->V1.grownBy w' (p.map Addr.block)->(∀ a,p'=some a->p=some a\/a.block=V1.heap.size)->K (.slice p' (l++[y]).length c') w') :
  SatR ((Builtin.append_ #[78,78] 78 #[.slice p l.length c,.slice (some a) 1 1]).run PG V1) K :=
 ju (E:=jH) (T:=73) (B:=B) (l:=l) (news:=[y]) (cap:=c) (m:=1) Tryz.underlying78 k73 rfl rfl rfl ho rfl ha hB (by omega) (by show (l.length+1)*104<=_;omega) fun p' c' w' a1 a2 _ a4=>h p' c' w' a1 (by rw [zag] at a2;exact a2) a4
structure ThrQ (V:List UInt8) (l:List InsD):Prop where
 l12:l.length<=12
 ex:∀ x∈l,zs6 x
 ok:z8 l 6=true
 m:(qb l (ded V)).length<=4096
end Go.Proofs.YtpalcnbhkigagaaGreatDoor
namespace Go.Proofs.YtpalcnbhkigagaaGreatDoor
open Go.Vc Go.RowKit Go.Sei
open Go.Sort (swp)
abbrev RB (w:Wd) (g:Nat) (sp:List Value) (d:Array UInt8):Prop:=RowS zJ 5 w g sp d.toList
def lt8 (x y:UInt8):Bool:=decide ((x.toNat:Int)<(y.toNat:Int))
theorem znI:Go.Sort.SWO lt8 where
 irrefl:=fun x=>Uh (by omega)
 trans:=fun x y z h1 h2=>by
  have h1:=dT h1;have h2:=dT h2;exact Us (by omega)
 ntrans:=fun x y z h1 h2=>by
  have h1:=dF h1;have h2:=dF h2;exact Uh (by omega)
section
variable {w:Wd} {g i j:Nat} {sp:List Value} {d:Array UInt8}
theorem zp (h:RB w g sp d) (hi:i<d.size):w.cell? ⟨g,0+i*1,none⟩=some (u8 d[i]!):=by
 have h1:i<d.toList.length:=by simpa using hi
 have:=zc0 h h1;rw [this,getElem!_pos d i hi];simp
theorem zE {P:Program} {iT:TI} (hT:TIok P 5 iT) (hs:iT.size=1) (hr:RB w g sp d) (hi:i<d.size) (x:UInt8) {K:Wd->Prop}
  (k:∀ w',RB w' g sp (d.setIfInBounds i x)->w.grownBy w' (some g)->K w') :
  SatR ((storeVar 5 ⟨g,0+i*1,none⟩ (.agg (zJ.enc x).toArray)).run P w) fun _ w'=>K w':=by
 refine zhd hT hs hr (i:=i) (by simpa using hi) x fun Z hRZ gZ sZ=>k Z ?_ gZ;show RowS zJ 5 Z g sp (d.setIfInBounds i x).toList;rw [Array.toList_setIfInBounds];exact hRZ
theorem zt (w:Wd) (g:Nat):w.grownBy w.drew (some g):=⟨rfl,rfl,rfl,UW _,fun _ _ _=>rfl⟩
end
section
variable {w:Wd} {g cap L a b:Nat} {sp:List Value} {d:Array UInt8}
theorem zrx (hr:RB w g sp d) (hL:d.size=L) (hab:a<=b) (hb:b<=L) (hl:L<=1000000) :
  Calls PG 137 #[.slice (some ⟨g,0,none⟩) L cap,i64 a,i64 b] w fun e w'=>e = .returned (.tuple #[])/\RB w' g sp (Go.Sort.insertionSort lt8 d a b)/\w.grownBy w' (some g):=by
 refine zH 49 [.slice (some ⟨g,0,none⟩) L cap,i64 a,i64 b] Tryz.func137 ?_;obtain⟨R,hR⟩:=nm (Go.Sort.insertionSort lt8 d a b);rw [<- hR];refine⟨((a+1:Nat):Int),(ze (by first | omega | (dsimp only;omega))).trans (by first | omega | (dsimp only;omega)),Nat×Array UInt8,fun s=>⟨[(0,.slice (some ⟨g,0,none⟩) L cap),(1,i64 a),(2,i64 b),(6,i64 (s.1:Nat))],[]⟩,fun s X=>a+1<=s.1/\s.2.size=L/\Go.Sort.insOuter lt8 a b s.1 s.2=R/\RB X g sp s.2/\w.grownBy X (some g),fun s=>b-s.1,(a+1,d),(cvE rfl rfl),⟨UW _,hL,by rw [hR];rfl,hr,z6 _ _⟩,?_⟩;rintro⟨i,d1⟩ X ⟨hi,hs1,hR1,hrX,gX⟩;dsimp only at hi hs1 hR1 hrX;rw [Go.Sort.insOuter] at hR1;refine biE (fun hc=>?_) fun hc=>?_
 ·have hc:(i:Int)<(b:Int):=dT hc;have hib:i<b:=by omega
  rw [Gp hib] at hR1;refine⟨Nat×Array UInt8,fun s=>⟨[(0,.slice (some ⟨g,0,none⟩) L cap),(1,i64 a),(2,i64 b),(6,i64 (i:Nat)),(7,i64 (s.1:Nat))],[]⟩,fun s Y=>a<=s.1/\s.1<=i/\s.2.size=L/\Go.Sort.insInner lt8 a s.1 s.2=Go.Sort.insInner lt8 a i d1/\RB Y g sp s.2/\w.grownBy Y (some g),fun s=>s.1,(i,d1),(cvE rfl rfl),⟨by show a<=i;omega,UW _,hs1,rfl,hrX,gX⟩,?_⟩;rintro⟨j,d2⟩ Y ⟨hj,hji,hs2,hR2,hrY,gY⟩;dsimp only at hj hji hs2 hR2 hrY;have hout:∀ Z d3,Go.Sort.insInner lt8 a i d1=d3->d3.size=L->RB Z g sp d3->w.grownBy Z (some g)->a+1<=i+1/\d3.size=L/\Go.Sort.insOuter lt8 a b (i+1) d3=R/\RB Z g sp d3/\w.grownBy Z (some g):=fun Z d3 e z q gz=>⟨by omega,z,by rw [<- e];exact hR1,q,gz⟩;have gYd:=zd gY (zt Y g);have qd:RB Y.drew g sp d2:=hrY;refine DrawE.ord [] [0,1,2,3,4,5,6,7,8,9,10,11,12,13,14] (by kernel_rfl) (biE (fun h2=>?_) fun h2=>?_)
  ·have h2:(a:Int)<(j:Int):=dT h2;obtain⟨k,rfl⟩:∃ k,j=k+1:=⟨j-1,by omega⟩;have hk1:k+1<d2.size:=by omega
   have hk:k<d2.size:=by omega
   have e2:Go.Sort.insInner lt8 a (k+1) d2=if (decide (k+1 > a)&&lt8 d2[k+1]! d2[k]!)=true then Go.Sort.insInner lt8 a k (swp d2 (k+1) k) else d2:=rfl
   have e3:decide (k+1 > a)=true:=Us (by omega);rw [e2,e3,Uy] at hR2;refine⟨k+1,rfl,by omega,?_⟩;refine⟨_,zp qd hk1,((k:Nat):Int),(ze (by first | omega | (dsimp only;omega))).trans (by first | omega | (dsimp only;omega)),k,rfl,by omega,?_⟩;refine⟨_,zp qd hk,cmo jy ?_⟩;rintro e _ ⟨rfl,rfl⟩;refine⟨Gb _ _,biE (fun h3=>?_) fun h3=>?_⟩
   ·have h3:lt8 d2[k+1]! d2[k]! = true:=h3;rw [Gp h3] at hR2;have qe:RB Y.drew.drew g sp d2:=qd;refine DrawE.ord [15,17] [0,1,2,3,4,5,6,7,8,9,10,11,12,13,14,15,16,17] (by kernel_rfl) ⟨((k:Nat):Int),(ze (by first | omega | (dsimp only;omega))).trans (by first | omega | (dsimp only;omega)),((k:Nat):Int),(ze (by first | omega | (dsimp only;omega))).trans (by first | omega | (dsimp only;omega)),k,rfl,by omega,?_⟩;refine⟨_,zp qe hk,k+1,rfl,by omega,?_⟩;refine⟨_,zp qe hk1,k+1,rfl,by omega,?_⟩;refine zE k5 rfl qe hk1 d2[k]! fun V1 q1 g1=>⟨k,rfl,by omega,?_⟩;refine zE k5 rfl q1 (by rw [Array.size_setIfInBounds];exact hk) d2[k+1]! fun V2 q2 g2=>?_;have q2:RB V2 g sp (swp d2 (k+1) (k)):=q2;have z2:(swp d2 (k+1) (k)).size=d2.size:=Go.Sort.size_swp d2 (k+1) (k);exact⟨((k:Nat):Int),(ze (by first | omega | (dsimp only;omega))).trans (by first | omega | (dsimp only;omega)),(k,swp d2 (k+1) k),(cvE rfl rfl),⟨by show a<=k;omega,by show k<=i;omega,by rw [z2];exact hs2,hR2,q2,zd gYd (zd (zt _ g) (zd g1 g2))⟩,QB k⟩
   ·have h3:lt8 d2[k+1]! d2[k]! = false:=h3;rw [Gn (by rw [h3];exact Kv)] at hR2;exact⟨((i+1:Nat):Int),(ze (by first | omega | (dsimp only;omega))).trans (by first | omega | (dsimp only;omega)),(i+1,d2),(cvE rfl rfl),hout _ _ hR2.symm hs2 qd gYd,zdc (by omega)⟩
  ·have h2:¬ (a:Int)<(j:Int):=dF h2;have hja:j=a:=by omega
   subst hja;have e2:Go.Sort.insInner lt8 j j d2=d2:=by
    cases j with
    | zero=>rfl
    | succ k =>
     show (if (decide (k+1 > k+1)&&lt8 d2[k+1]! d2[k]!)=true then _ else d2)=d2;rw [Uh (by omega),Uj];rfl
   rw [e2] at hR2;exact Gg (fun h=>by cases h) (fun _=>⟨((i+1:Nat):Int),(ze (by first | omega | (dsimp only;omega))).trans (by first | omega | (dsimp only;omega)),(i+1,d2),(cvE rfl rfl),hout _ _ hR2.symm hs2 qd gYd,zdc (by omega)⟩)
 ·have hc:¬ (i:Int)<(b:Int):=dF hc;rw [Gn (by omega)] at hR1;exact⟨rfl,hR1▸hrX,gX⟩
end
def zbm (hi first root:Nat) (d:Array UInt8):Nat:=if (decide (2*root+1+1<hi)&&lt8 d[first+(2*root+1)]! d[first+(2*root+1)+1]!)=true then 2*root+2 else 2*root+1
theorem zfS {hi first root:Nat} {d:Array UInt8} (h:¬ 2*root+1<hi):Go.Sort.siftDown lt8 hi first root d=d:=by
 rw [Go.Sort.siftDown,dif_pos (by omega)]
theorem zly {hi first root:Nat} {d:Array UInt8} (h:2*root+1<hi):Go.Sort.siftDown lt8 hi first root d =
  if (!lt8 d[first+root]! d[first+zbm hi first root d]!)=true then d else Go.Sort.siftDown lt8 hi first (zbm hi first root d) (swp d (first+root) (first+zbm hi first root d)):=by
 rw [Go.Sort.siftDown,dif_neg (by omega)];unfold zbm;by_cases h2:(decide (2*root+1+1<hi)&&lt8 d[first+(2*root+1)]! d[first+(2*root+1)+1]!)=true
 ·have h3:2*root+2<hi:=by
   rw [bAT,dE] at h2;omega
  rw [Gp h2,Gp h2,dif_pos h3]
 ·rw [Gn h2,Gn h2]
theorem zhk {hi first root:Nat} {d:Array UInt8} (h:2*root+1<hi):zbm hi first root d<hi/\root<zbm hi first root d:=by
 unfold zbm
 split
 ·rename_i h2;rw [bAT,dE] at h2;omega
 ·omega
section
variable {w:Wd} {g cap L a b:Nat} {sp:List Value} {d:Array UInt8}
theorem znN {lo hi first:Nat} (hr:RB w g sp d) (hL:d.size=L) (hb:first+hi<=L) (hl:L<=1000000) (hlo:lo<=1000000) :
  Calls PG 155 #[.slice (some ⟨g,0,none⟩) L cap,i64 lo,i64 hi,i64 first] w fun e w'=>e = .returned (.tuple #[])/\RB w' g sp (Go.Sort.siftDown lt8 hi first lo d)/\w.grownBy w' (some g):=by
 refine zH 76 [.slice (some ⟨g,0,none⟩) L cap,i64 lo,i64 hi,i64 first] Tryz.func155 ?_;obtain⟨R,hR⟩:=nm (Go.Sort.siftDown lt8 hi first lo d);rw [<- hR];refine⟨Nat×Array UInt8,fun s=>⟨[(0,.slice (some ⟨g,0,none⟩) L cap),(1,i64 lo),(2,i64 hi),(3,i64 first),(8,i64 (s.1:Nat))],[]⟩,fun s X=>s.1<=1000000/\s.2.size=L/\Go.Sort.siftDown lt8 hi first s.1 s.2=R/\RB X g sp s.2/\w.grownBy X (some g),fun s=>hi-s.1,(lo,d),(cvE rfl rfl),⟨hlo,hL,hR.symm,hr,z6 _ _⟩,?_⟩;rintro⟨root,d1⟩ X ⟨hro,hs1,hR1,hrX,gX⟩;dsimp only at hro hs1 hR1 hrX;refine⟨((2*root:Nat):Int),(ze (by first | omega | (dsimp only;omega))).trans (by first | omega | (dsimp only;omega)),((2*root+1:Nat):Int),(ze (by first | omega | (dsimp only;omega))).trans (by first | omega | (dsimp only;omega)),biE (fun hc=>?_) fun hc=>?_⟩
 ·have hc:(hi:Int)<=((2*root+1:Nat):Int):=dT hc;rw [zfS (by omega)] at hR1;exact⟨rfl,hR1▸hrX,gX⟩
 ·have hc:¬ (hi:Int)<=((2*root+1:Nat):Int):=dF hc;have hch:2*root+1<hi:=by omega
  rw [zly hch] at hR1;obtain⟨hclt,hcr⟩:=zhk (d:=d1) (first:=first) hch;obtain⟨c,hcd⟩:=nm (zbm hi first root d1);rw [<- hcd] at hR1 hclt hcr;have qd:RB X.drew g sp d1:=hrX;have gXd:=zd gX (zt X g);refine DrawE.ord [] [0,1,2,3,4,5,6,7,8,9,10,11,12,13,14,15,16,17,18,19] (by kernel_rfl) ⟨((2*root+1+1:Nat):Int),(ze (by first | omega | (dsimp only;omega))).trans (by first | omega | (dsimp only;omega)),biE (fun h2=>?_) fun h2=>?_⟩
  ·have h2:((2*root+1+1:Nat):Int)<(hi:Int):=dT h2;have h2:2*root+1+1<hi:=by omega
   have hx1:first+(2*root+1)<d1.size:=by omega
   have hx2:first+(2*root+1)+1<d1.size:=by omega
   refine⟨((first+(2*root+1):Nat):Int),(ze (by first | omega | (dsimp only;omega))).trans (by first | omega | (dsimp only;omega)),first+(2*root+1),rfl,by omega,?_⟩;refine⟨_,zp qd hx1,((first+(2*root+1):Nat):Int),(ze (by first | omega | (dsimp only;omega))).trans (by first | omega | (dsimp only;omega)),((first+(2*root+1)+1:Nat):Int),(ze (by first | omega | (dsimp only;omega))).trans (by first | omega | (dsimp only;omega)),first+(2*root+1)+1,rfl,by omega,?_⟩;refine⟨_,zp qd hx2,cmo jy ?_⟩;rintro e _ ⟨rfl,rfl⟩;refine⟨Gb _ _,biE (fun h3=>?_) fun h3=>?_⟩
   ·have h3:lt8 d1[first+(2*root+1)]! d1[first+(2*root+1)+1]! = true:=h3;have hce:c=2*root+2:=(by rw [hcd];unfold zbm;rw [h3,Us h2];rfl);subst hce;clear hcd;refine⟨((2*root+2:Nat):Int),(ze (by first | omega | (dsimp only;omega))).trans (by first | omega | (dsimp only;omega)),?_⟩;have hi1:first+root<d1.size:=by omega
    have hi2:first+(2*root+2)<d1.size:=by omega
    have q5:RB X.drew.drew g sp d1:=hrX;refine DrawE.ord [] [0,1,2,3,4,5,6,7,8,9,10,11,12,13] (by kernel_rfl) ⟨((first+root:Nat):Int),(ze (by first | omega | (dsimp only;omega))).trans (by first | omega | (dsimp only;omega)),first+root,rfl,by omega,?_⟩;refine⟨_,zp q5 hi1,((first+(2*root+2):Nat):Int),(ze (by first | omega | (dsimp only;omega))).trans (by first | omega | (dsimp only;omega)),first+(2*root+2),rfl,by omega,?_⟩;refine⟨_,zp q5 hi2,cmo jy ?_⟩;rintro e _ ⟨rfl,rfl⟩;refine⟨Gb _ _,biE (fun h4=>?_) fun h4=>?_⟩
    ·have h4:(!lt8 d1[first+root]! d1[first+(2*root+2)]!)=true:=h4;rw [Gp h4] at hR1;exact⟨rfl,hR1▸hrX,zd gXd (zt _ g)⟩
    ·have h4:(!lt8 d1[first+root]! d1[first+(2*root+2)]!)=false:=h4;rw [Gn (by rw [h4];exact Kv)] at hR1;have q6:RB X.drew.drew.drew g sp d1:=hrX;refine DrawE.ord [21,23] [0,1,2,3,4,5,6,7,8,9,10,11,12,13,14,15,16,17,18,19,20,21,22,23] (by kernel_rfl) ⟨((first+root:Nat):Int),(ze (by first | omega | (dsimp only;omega))).trans (by first | omega | (dsimp only;omega)),((first+(2*root+2):Nat):Int),(ze (by first | omega | (dsimp only;omega))).trans (by first | omega | (dsimp only;omega)),((first+(2*root+2):Nat):Int),(ze (by first | omega | (dsimp only;omega))).trans (by first | omega | (dsimp only;omega)),first+(2*root+2),rfl,by omega,?_⟩;refine⟨_,zp q6 hi2,((first+root:Nat):Int),(ze (by first | omega | (dsimp only;omega))).trans (by first | omega | (dsimp only;omega)),first+root,rfl,by omega,?_⟩;refine⟨_,zp q6 hi1,first+root,rfl,by omega,?_⟩;refine zE k5 rfl q6 hi1 d1[first+(2*root+2)]! fun V1 q1 g1=>⟨first+(2*root+2),rfl,by omega,?_⟩;refine zE k5 rfl q1 (by rw [Array.size_setIfInBounds];exact hi2) d1[first+root]! fun V2 q2 g2=>?_;have q2:RB V2 g sp (swp d1 (first+root) (first+(2*root+2))):=q2;have z2:(swp d1 (first+root) (first+(2*root+2))).size=d1.size:=Go.Sort.size_swp d1 (first+root) (first+(2*root+2));exact⟨(2*root+2,swp d1 (first+root) (first+(2*root+2))),(cvE rfl rfl),⟨by show 2*root+2<=1000000;omega,by rw [z2];exact hs1,hR1,q2,zd gXd (zd (zt _ g) (zd (zt _ g) (zd g1 g2)))⟩,by show hi-(2*root+2)<hi-root;omega⟩
   ·have h3:lt8 d1[first+(2*root+1)]! d1[first+(2*root+1)+1]! = false:=h3;have hce:c=2*root+1:=(by rw [hcd];unfold zbm;rw [h3,Ui];rfl);subst hce;clear hcd;have hi1:first+root<d1.size:=by omega
    have hi2:first+(2*root+1)<d1.size:=by omega
    have q5:RB X.drew.drew g sp d1:=hrX;refine DrawE.ord [] [0,1,2,3,4,5,6,7,8,9,10,11,12,13] (by kernel_rfl) ⟨((first+root:Nat):Int),(ze (by first | omega | (dsimp only;omega))).trans (by first | omega | (dsimp only;omega)),first+root,rfl,by omega,?_⟩;refine⟨_,zp q5 hi1,((first+(2*root+1):Nat):Int),(ze (by first | omega | (dsimp only;omega))).trans (by first | omega | (dsimp only;omega)),first+(2*root+1),rfl,by omega,?_⟩;refine⟨_,zp q5 hi2,cmo jy ?_⟩;rintro e _ ⟨rfl,rfl⟩;refine⟨Gb _ _,biE (fun h4=>?_) fun h4=>?_⟩
    ·have h4:(!lt8 d1[first+root]! d1[first+(2*root+1)]!)=true:=h4;rw [Gp h4] at hR1;exact⟨rfl,hR1▸hrX,zd gXd (zt _ g)⟩
    ·have h4:(!lt8 d1[first+root]! d1[first+(2*root+1)]!)=false:=h4;rw [Gn (by rw [h4];exact Kv)] at hR1;have q6:RB X.drew.drew.drew g sp d1:=hrX;refine DrawE.ord [21,23] [0,1,2,3,4,5,6,7,8,9,10,11,12,13,14,15,16,17,18,19,20,21,22,23] (by kernel_rfl) ⟨((first+root:Nat):Int),(ze (by first | omega | (dsimp only;omega))).trans (by first | omega | (dsimp only;omega)),((first+(2*root+1):Nat):Int),(ze (by first | omega | (dsimp only;omega))).trans (by first | omega | (dsimp only;omega)),((first+(2*root+1):Nat):Int),(ze (by first | omega | (dsimp only;omega))).trans (by first | omega | (dsimp only;omega)),first+(2*root+1),rfl,by omega,?_⟩;refine⟨_,zp q6 hi2,((first+root:Nat):Int),(ze (by first | omega | (dsimp only;omega))).trans (by first | omega | (dsimp only;omega)),first+root,rfl,by omega,?_⟩;refine⟨_,zp q6 hi1,first+root,rfl,by omega,?_⟩;refine zE k5 rfl q6 hi1 d1[first+(2*root+1)]! fun V1 q1 g1=>⟨first+(2*root+1),rfl,by omega,?_⟩;refine zE k5 rfl q1 (by rw [Array.size_setIfInBounds];exact hi2) d1[first+root]! fun V2 q2 g2=>?_;have q2:RB V2 g sp (swp d1 (first+root) (first+(2*root+1))):=q2;have z2:(swp d1 (first+root) (first+(2*root+1))).size=d1.size:=Go.Sort.size_swp d1 (first+root) (first+(2*root+1));exact⟨(2*root+1,swp d1 (first+root) (first+(2*root+1))),(cvE rfl rfl),⟨by show 2*root+1<=1000000;omega,by rw [z2];exact hs1,hR1,q2,zd gXd (zd (zt _ g) (zd (zt _ g) (zd g1 g2)))⟩,by show hi-(2*root+1)<hi-root;omega⟩
  ·have h2:¬ ((2*root+1+1:Nat):Int)<(hi:Int):=dF h2;refine Gg (fun h=>by cases h) (fun _=>?_);have hce:c=2*root+1:=by rw [hcd];unfold zbm;rw [Uh (by omega),Uj];rfl
   subst hce;clear hcd;have hi1:first+root<d1.size:=by omega
   have hi2:first+(2*root+1)<d1.size:=by omega
   have q5:RB X.drew.drew g sp d1:=hrX;refine DrawE.ord [] [0,1,2,3,4,5,6,7,8,9,10,11,12,13] (by kernel_rfl) ⟨((first+root:Nat):Int),(ze (by first | omega | (dsimp only;omega))).trans (by first | omega | (dsimp only;omega)),first+root,rfl,by omega,?_⟩;refine⟨_,zp q5 hi1,((first+(2*root+1):Nat):Int),(ze (by first | omega | (dsimp only;omega))).trans (by first | omega | (dsimp only;omega)),first+(2*root+1),rfl,by omega,?_⟩;refine⟨_,zp q5 hi2,cmo jy ?_⟩;rintro e _ ⟨rfl,rfl⟩;refine⟨Gb _ _,biE (fun h4=>?_) fun h4=>?_⟩
   ·have h4:(!lt8 d1[first+root]! d1[first+(2*root+1)]!)=true:=h4;rw [Gp h4] at hR1;exact⟨rfl,hR1▸hrX,zd gXd (zt _ g)⟩
   ·have h4:(!lt8 d1[first+root]! d1[first+(2*root+1)]!)=false:=h4;rw [Gn (by rw [h4];exact Kv)] at hR1;have q6:RB X.drew.drew.drew g sp d1:=hrX;refine DrawE.ord [21,23] [0,1,2,3,4,5,6,7,8,9,10,11,12,13,14,15,16,17,18,19,20,21,22,23] (by kernel_rfl) ⟨((first+root:Nat):Int),(ze (by first | omega | (dsimp only;omega))).trans (by first | omega | (dsimp only;omega)),((first+(2*root+1):Nat):Int),(ze (by first | omega | (dsimp only;omega))).trans (by first | omega | (dsimp only;omega)),((first+(2*root+1):Nat):Int),(ze (by first | omega | (dsimp only;omega))).trans (by first | omega | (dsimp only;omega)),first+(2*root+1),rfl,by omega,?_⟩;refine⟨_,zp q6 hi2,((first+root:Nat):Int),(ze (by first | omega | (dsimp only;omega))).trans (by first | omega | (dsimp only;omega)),first+root,rfl,by omega,?_⟩;refine⟨_,zp q6 hi1,first+root,rfl,by omega,?_⟩;refine zE k5 rfl q6 hi1 d1[first+(2*root+1)]! fun V1 q1 g1=>⟨first+(2*root+1),rfl,by omega,?_⟩;refine zE k5 rfl q1 (by rw [Array.size_setIfInBounds];exact hi2) d1[first+root]! fun V2 q2 g2=>?_;have q2:RB V2 g sp (swp d1 (first+root) (first+(2*root+1))):=q2;have z2:(swp d1 (first+root) (first+(2*root+1))).size=d1.size:=Go.Sort.size_swp d1 (first+root) (first+(2*root+1));exact⟨(2*root+1,swp d1 (first+root) (first+(2*root+1))),(cvE rfl rfl),⟨by show 2*root+1<=1000000;omega,by rw [z2];exact hs1,hR1,q2,zd gXd (zd (zt _ g) (zd (zt _ g) (zd g1 g2)))⟩,by show hi-(2*root+1)<hi-root;omega⟩
theorem zeG (hi first:Nat):∀ (n root:Nat) (d:Array UInt8),hi-root<=n->(Go.Sort.siftDown lt8 hi first root d).size=d.size
 | 0,root,d,h=>by rw [zfS (by omega)]
 | n+1,root,d,h=>by
  by_cases hc:2*root+1<hi
  ·have:=zhk (d:=d) (first:=first) hc;rw [zly hc]
   split
   ·rfl
   ·rw [zeG hi first n _ _ (by omega)];exact Go.Sort.size_swp ..
  ·rw [zfS hc]
theorem zp1 (hr:RB w g sp d) (hL:d.size=L) (hab:a<b) (hb:b<=L) (hl:L<=1000000) :
  Calls PG 138 #[.slice (some ⟨g,0,none⟩) L cap,i64 a,i64 b] w fun e w'=>e = .returned (.tuple #[])/\RB w' g sp (Go.Sort.heapSort lt8 d a b)/\w.grownBy w' (some g):=by
 refine zH 56 [.slice (some ⟨g,0,none⟩) L cap,i64 a,i64 b] Tryz.func138 ?_;obtain⟨R,hR⟩:=nm (Go.Sort.heapSort lt8 d a b);rw [<- hR];refine⟨((b-a:Nat):Int),(ze (by first | omega | (dsimp only;omega))).trans (by first | omega | (dsimp only;omega)),((b-a-1:Nat):Int),(ze (by first | omega | (dsimp only;omega))).trans (by first | omega | (dsimp only;omega)),by decide,(((b-a-1)/2:Nat):Int),(Gj _ (show ((b-a-1:Nat):Int).tdiv 2=(((b-a-1)/2:Nat):Int) from rfl)).trans (ze (by omega)),Nat×Array UInt8,fun s=>⟨[(0,.slice (some ⟨g,0,none⟩) L cap),(1,i64 a),(2,i64 b),(6,i64 a),(7,i64 0),(8,i64 (b-a:Nat)),(9,i64 ((s.1:Int)-1))],[]⟩,fun s X=>s.1<=(b-a-1)/2+1/\s.2.size=L/\Go.Sort.heapPop lt8 a (b-a) (Go.Sort.heapBuild lt8 (b-a) a s.1 s.2)=R/\RB X g sp s.2/\w.grownBy X (some g),fun s=>s.1,((b-a-1)/2+1,d),⟨.cons rfl (.cons rfl (.cons rfl (.cons rfl (.cons rfl (.cons rfl (.cons (by dsimp only;rw [show ((((b-a-1)/2+1:Nat):Int)-1)=(((b-a-1)/2:Nat):Int) by omega];rfl) .nil)))))),rfl⟩,⟨UW _,hL,hR.symm,hr,z6 _ _⟩,?_⟩;rintro⟨k,d1⟩ X ⟨hk,hs1,hR1,hrX,gX⟩;dsimp only at hk hs1 hR1 hrX;refine biE (fun hc=>?_) fun hc=>?_
 ·have hc:(0:Int)<=(k:Int)-1:=dT hc;obtain⟨m,rfl⟩:∃ m,k=m+1:=⟨k-1,by omega⟩;have hm:(((m+1:Nat):Int)-1)=(m:Int):=by omega
  have c1:=znN (cap:=cap) (lo:=m) (hi:=b-a) (first:=a) hrX hs1 (by omega) hl (by omega);rw [<- hm] at c1;refine cmo c1 ?_;rintro e Y ⟨rfl,qY,gY⟩;exact⟨(m:Int)-1,(ze (by omega)).trans (by omega),(m,Go.Sort.siftDown lt8 (b-a) a m d1),(cvE rfl rfl),⟨by show m<=_;omega,by show (Go.Sort.siftDown ..).size=L;rw [zeG _ _ _ _ _ (UW _)];exact hs1,hR1,qY,zd gX gY⟩,QB m⟩
 ·have hc:¬ (0:Int)<=(k:Int)-1:=dF hc;obtain rfl:k=0:=by omega
  have hR1:Go.Sort.heapPop lt8 a (b-a) d1=R:=hR1;refine⟨((b-a-1:Nat):Int),(ze (by first | omega | (dsimp only;omega))).trans (by first | omega | (dsimp only;omega)),Nat×Array UInt8,fun s=>⟨[(0,.slice (some ⟨g,0,none⟩) L cap),(1,i64 a),(2,i64 b),(6,i64 a),(7,i64 0),(8,i64 (b-a:Nat)),(10,i64 ((s.1:Int)-1))],[]⟩,fun s Y=>s.1<=b-a/\s.2.size=L/\Go.Sort.heapPop lt8 a s.1 s.2=R/\RB Y g sp s.2/\w.grownBy Y (some g),fun s=>s.1,(b-a,d1),⟨.cons rfl (.cons rfl (.cons rfl (.cons rfl (.cons rfl (.cons rfl (.cons (by dsimp only;rw [show (((b-a:Nat):Int)-1)=((b-a-1:Nat):Int) by omega];rfl) .nil)))))),rfl⟩,⟨UW _,hs1,hR1,hrX,gX⟩,?_⟩;rintro⟨k,d2⟩ Y ⟨hk,hs2,hR2,hrY,gY⟩;dsimp only at hk hs2 hR2 hrY;refine biE (fun hc=>?_) fun hc=>?_
  ·have hc:(0:Int)<=(k:Int)-1:=dT hc;obtain⟨m,rfl⟩:∃ m,k=m+1:=⟨k-1,by omega⟩;have hm:(((m+1:Nat):Int)-1)=(m:Int):=by omega
   have hi1:a<d2.size:=by omega
   have hi2:a+m<d2.size:=by omega
   have qd:RB Y.drew g sp d2:=hrY;refine DrawE.ord [17,19] [0,1,2,3,4,5,6,7,8,9,10,11,12,13,14,15,16,17,18,19] (by kernel_rfl) ⟨((a+m:Nat):Int),(ze (by first | omega | (dsimp only;omega))).trans (by first | omega | (dsimp only;omega)),((a+m:Nat):Int),(ze (by first | omega | (dsimp only;omega))).trans (by first | omega | (dsimp only;omega)),a+m,rfl,by omega,?_⟩;refine⟨_,zp qd hi2,a,rfl,by omega,?_⟩;refine⟨_,zp qd hi1,a,rfl,by omega,?_⟩;refine zE k5 rfl qd hi1 d2[a+m]! fun V1 q1 g1=>⟨a+m,rfl,by omega,?_⟩;refine zE k5 rfl q1 (by rw [Array.size_setIfInBounds];exact hi2) d2[a]! fun V2 q2 g2=>?_;have q2:RB V2 g sp (swp d2 (a) (a+m)):=q2;have z2:(swp d2 (a) (a+m)).size=d2.size:=Go.Sort.size_swp d2 (a) (a+m);have c1:=znN (cap:=cap) (lo:=0) (hi:=m) (first:=a) q2 (by rw [z2];exact hs2) (by omega) hl (by omega);rw [<- hm] at c1;refine cmo c1 ?_;rintro e Z ⟨rfl,qZ,gZ⟩;exact⟨(m:Int)-1,(ze (by omega)).trans (by omega),(m,Go.Sort.siftDown lt8 m a 0 (swp d2 a (a+m))),(cvE rfl rfl),⟨by show m<=_;omega,by show (Go.Sort.siftDown ..).size=L;rw [zeG _ _ _ _ _ (UW _),z2];exact hs2,hR2,qZ,zd gY (zd (zt _ g) (zd g1 (zd g2 gZ)))⟩,QB m⟩
  ·have hc:¬ (0:Int)<=(k:Int)-1:=dF hc;obtain rfl:k=0:=by omega
   have hR2:d2=R:=hR2;exact⟨rfl,hR2▸hrY,gY⟩
end
theorem zdB {p:UInt8->Bool} {d:Array UInt8} {i j:Nat} (h:i<=j) (hp:p d[i]! = true):Go.Sort.scanUp p d j i=Go.Sort.scanUp p d j (i+1):=by
 rw [Go.Sort.scanUp,Gp (by rw [Us h,hp];rfl)]
theorem zbi {p:UInt8->Bool} {d:Array UInt8} {i j:Nat} (h:i<=j->p d[i]! = false):Go.Sort.scanUp p d j i=i:=by
 rw [Go.Sort.scanUp];by_cases e:i<=j
 ·rw [Gn (by rw [h e,Ui];exact Kv)]
 ·rw [Gn (by rw [Uh e];exact Kv)]
theorem zcl {p:UInt8->Bool} {d:Array UInt8} {i j:Nat} (h:i<=j+1) (hp:p d[j+1]! = true):Go.Sort.scanDown p d i (j+1)=Go.Sort.scanDown p d i j:=by
 show (if (decide (i<=j+1)&&p d[j+1]!)=true then _ else _)=_;rw [Us h,hp];rfl
theorem zao {p:UInt8->Bool} {d:Array UInt8} {i:Nat}:∀ {j:Nat},(i<=j->p d[j]! = false)->Go.Sort.scanDown p d i j=j
 | 0,_=>rfl
 | j+1,h=>by
  show (if (decide (i<=j+1)&&p d[j+1]!)=true then _ else _)=_;by_cases e:i<=j+1
  ·rw [h e,Ui];rfl
  ·rw [Uh e];rfl
section
variable {w:Wd} {g cap L a b pivot:Nat} {sp:List Value} {d:Array UInt8}
theorem zrp (hr:RB w g sp d) (hL:d.size=L) (hap:a<=pivot) (hpb:pivot<b) (hb:b<=L) (hl:L<=1000000) :
  Calls PG 145 #[.slice (some ⟨g,0,none⟩) L cap,i64 a,i64 b,i64 pivot] w fun e w'=>∃ m ap d',Go.Sort.partition lt8 d a b pivot=(m,ap,d')/\e = .returned (.tuple #[i64 (m:Nat),.bool ap])/\RB w' g sp d'/\w.grownBy w' (some g):=by
 refine jf 168 [.slice (some ⟨g,0,none⟩) L cap,i64 a,i64 b,i64 pivot] (.s .p (.s .p (.s .p (.c .p (.c .p (.s .p (.s .p (.s .p (.s .p (.c (.b (.l (.b (.c .p (.c .p .p))))) .p)))))))))) Tryz.func145 ?_;have ha1:a<d.size:=by omega
 have ha2:pivot<d.size:=by omega
 have q0:RB w.drew g sp d:=hr;refine DrawE.ord [13,15] [0,1,2,3,4,5,6,7,8,9,10,11,12,13,14,15] (by kernel_rfl) ⟨pivot,rfl,by omega,?_⟩;refine⟨_,zp q0 ha2,a,rfl,by omega,?_⟩;refine⟨_,zp q0 ha1,a,rfl,by omega,?_⟩;refine zE k5 rfl q0 ha1 d[pivot]! fun V1s q1s g1s=>⟨pivot,rfl,by omega,?_⟩;refine zE k5 rfl q1s (by rw [Array.size_setIfInBounds];exact ha2) d[a]! fun V2s q2s g2s=>?_;have q2s:RB V2s g sp (swp d (a) (pivot)):=q2s;have z2s:(swp d (a) (pivot)).size=d.size:=Go.Sort.size_swp d (a) (pivot);obtain⟨d1,hd1⟩:=nm (swp d a pivot);rw [<- hd1] at q2s z2s;have g0:=zd (zt w g) (zd g1s g2s);have hz1:d1.size=L:=by rw [z2s];exact hL
 refine⟨((a+1:Nat):Int),(ze (by first | omega | (dsimp only;omega))).trans (by first | omega | (dsimp only;omega)),?_⟩;obtain⟨J0,hJ0⟩:=nm (b-1);refine⟨((J0:Nat):Int),(ze (by first | omega | (dsimp only;omega))).trans (by first | omega | (dsimp only;omega)),?_⟩;obtain⟨I0,hI0⟩:=nm (Go.Sort.scanUp (fun x=>lt8 x d1[a]!) d1 J0 (a+1));obtain⟨K0,hK0⟩:=nm (Go.Sort.scanDown (fun x => !lt8 x d1[a]!) d1 I0 J0);have hPE:Go.Sort.partition lt8 d a b pivot=if I0 > K0 then (K0,true,swp d1 K0 a) else ((Go.Sort.partLoop lt8 a (I0+1) (K0-1) (swp d1 I0 K0)).1,false,swp (Go.Sort.partLoop lt8 a (I0+1) (K0-1) (swp d1 I0 K0)).2 (Go.Sort.partLoop lt8 a (I0+1) (K0-1) (swp d1 I0 K0)).1 a):=by rw [hK0,hI0,hJ0,hd1];rfl
 refine⟨Unit,fun _=>⟨[(0,.slice (some ⟨g,0,none⟩) L cap),(1,i64 a),(2,i64 b),(3,i64 pivot),(10,i64 (I0:Nat)),(11,i64 (J0:Nat))],[]⟩,fun _ X=>(a+1<=I0/\I0<=J0+1/\(I0<=J0->lt8 d1[I0]! d1[a]! = false))/\RB X g sp d1/\w.grownBy X (some g),?_,?_⟩
 ·refine⟨Nat,fun u=>⟨[(0,.slice (some ⟨g,0,none⟩) L cap),(1,i64 a),(2,i64 b),(3,i64 pivot),(10,i64 (u:Nat)),(11,i64 (J0:Nat))],[]⟩,fun u X=>a+1<=u/\u<=J0+1/\Go.Sort.scanUp (fun x=>lt8 x d1[a]!) d1 J0 u=I0/\RB X g sp d1/\w.grownBy X (some g),fun u=>J0+1-u,(a+1),(cvE rfl rfl),⟨by omega,by omega,hI0.symm,q2s,g0⟩,?_⟩;rintro u Y ⟨hi,hij,hRs,hrY,gY⟩;have gYd:=zd gY (zt Y g);have qd:RB Y.drew g sp d1:=hrY;refine DrawE.ord [] [0,1,2,3,4,5,6,7,8,9,10,11,12,13] (by kernel_rfl) (biE (fun h2=>?_) fun h2=>?_)
  ·have h2:(u:Int)<=(J0:Int):=dT h2;have h2:u<=J0:=by omega
   have hx1:u<d1.size:=by omega
   have hx2:a<d1.size:=by omega
   refine⟨u,rfl,by omega,?_⟩;refine⟨_,zp qd hx1,a,rfl,by omega,?_⟩;refine⟨_,zp qd hx2,cmo jy ?_⟩;rintro e _ ⟨rfl,rfl⟩;refine⟨Gb _ _,biE (fun h3=>?_) fun h3=>?_⟩
   ·have h3:lt8 d1[u]! d1[a]! = true:=h3;rw [zdB (p:=fun x=>lt8 x d1[a]!) h2 h3] at hRs;exact⟨((u+1:Nat):Int),(ze (by first | omega | (dsimp only;omega))).trans (by first | omega | (dsimp only;omega)),u+1,(cvE rfl rfl),⟨by omega,by omega,hRs,qd,gYd⟩,zdc (by omega)⟩
   ·have h3:lt8 d1[u]! d1[a]! = false:=h3;rw [zbi (p:=fun x=>lt8 x d1[a]!) fun _=>h3] at hRs;subst hRs;exact⟨(),(cvE rfl rfl),⟨hi,hij,fun _=>h3⟩,qd,gYd⟩
  ·have h2:¬ (u:Int)<=(J0:Int):=dF h2;refine Gg (fun h=>by cases h) (fun _=>?_);rw [zbi (p:=fun x=>lt8 x d1[a]!) fun h=>Gq h (by omega)] at hRs;subst hRs;exact⟨(),(cvE rfl rfl),⟨hi,hij,fun h=>Gq h (by omega)⟩,qd,gYd⟩
 rintro _ X ⟨⟨hI1,hI2,hI3⟩,hrX,gX⟩;refine⟨Unit,fun _=>⟨[(0,.slice (some ⟨g,0,none⟩) L cap),(1,i64 a),(2,i64 b),(3,i64 pivot),(10,i64 (I0:Nat)),(11,i64 (K0:Nat))],[]⟩,fun _ X=>(K0<=J0/\I0<=K0+1/\(I0<=K0->(!lt8 d1[K0]! d1[a]!)=false))/\RB X g sp d1/\w.grownBy X (some g),?_,?_⟩
 ·refine⟨Nat,fun k=>⟨[(0,.slice (some ⟨g,0,none⟩) L cap),(1,i64 a),(2,i64 b),(3,i64 pivot),(10,i64 (I0:Nat)),(11,i64 (k:Nat))],[]⟩,fun k X=>k<=J0/\I0<=k+1/\Go.Sort.scanDown (fun x => !lt8 x d1[a]!) d1 I0 k=K0/\RB X g sp d1/\w.grownBy X (some g),fun k=>k,J0,(cvE rfl rfl),⟨UW _,by omega,hK0.symm,hrX,gX⟩,?_⟩;rintro k Y ⟨hi,hij,hRs,hrY,gY⟩;have gYd:=zd gY (zt Y g);have qd:RB Y.drew g sp d1:=hrY;refine DrawE.ord [] [0,1,2,3,4,5,6,7,8,9,10,11,12,13,14] (by kernel_rfl) (biE (fun h2=>?_) fun h2=>?_)
  ·have h2:(I0:Int)<=(k:Int):=dT h2;have h2:I0<=k:=by omega
   have hx1:k<d1.size:=by omega
   have hx2:a<d1.size:=by omega
   refine⟨k,rfl,by omega,?_⟩;refine⟨_,zp qd hx1,a,rfl,by omega,?_⟩;refine⟨_,zp qd hx2,cmo jy ?_⟩;rintro e _ ⟨rfl,rfl⟩;refine⟨Gb _ _,biE (fun h3=>?_) fun h3=>?_⟩
   ·have h3:(!lt8 d1[k]! d1[a]!)=true:=h3;obtain⟨m,rfl⟩:∃ m,k=m+1:=⟨k-1,by omega⟩;rw [zcl (p:=fun x => !lt8 x d1[a]!) h2 h3] at hRs;exact⟨((m:Nat):Int),(ze (by first | omega | (dsimp only;omega))).trans (by first | omega | (dsimp only;omega)),m,(cvE rfl rfl),⟨by omega,by omega,hRs,qd,gYd⟩,QB m⟩
   ·have h3:(!lt8 d1[k]! d1[a]!)=false:=h3;rw [zao (p:=fun x => !lt8 x d1[a]!) fun _=>h3] at hRs;subst hRs;exact⟨(),(cvE rfl rfl),⟨hi,hij,fun _=>h3⟩,qd,gYd⟩
  ·have h2:¬ (I0:Int)<=(k:Int):=dF h2;refine Gg (fun h=>by cases h) (fun _=>?_);rw [zao (p:=fun x => !lt8 x d1[a]!) fun h=>Gq h (by omega)] at hRs;subst hRs;exact⟨(),(cvE rfl rfl),⟨hi,hij,fun h=>Gq h (by omega)⟩,qd,gYd⟩
 rintro _ Y ⟨⟨hK1,hK2,hK3⟩,hrY,gY⟩;refine biE (fun hc=>?_) fun hc=>?_
 ·have hc:(K0:Int)<(I0:Int):=dT hc;rw [Gp (by omega)] at hPE;have hx1:K0<d1.size:=by omega
  have hx2:a<d1.size:=by omega
  have qd:RB Y.drew g sp d1:=hrY;refine DrawE.ord [13,15] [0,1,2,3,4,5,6,7,8,9,10,11,12,13,14,15] (by kernel_rfl) ⟨a,rfl,by omega,?_⟩;refine⟨_,zp qd hx2,K0,rfl,by omega,?_⟩;refine⟨_,zp qd hx1,K0,rfl,by omega,?_⟩;refine zE k5 rfl qd hx1 d1[a]! fun V1 q1 g1=>⟨a,rfl,by omega,?_⟩;refine zE k5 rfl q1 (by rw [Array.size_setIfInBounds];exact hx2) d1[K0]! fun V2 q2 g2=>?_;have q2:RB V2 g sp (swp d1 (K0) (a)):=q2;have z2:(swp d1 (K0) (a)).size=d1.size:=Go.Sort.size_swp d1 (K0) (a);exact⟨K0,true,_,hPE,rfl,q2,zd gY (zd (zt _ g) (zd g1 g2))⟩
 ·have hc:¬ (K0:Int)<(I0:Int):=dF hc;rw [Gn (by omega)] at hPE;have hne0:I0≠K0:=fun h=>by
   have e1:=hI3 (by omega);have e2:=hK3 (by omega);rw [h] at e1;rw [e1] at e2
   cases e2
  have hx1:I0<d1.size:=by omega
  have hx2:K0<d1.size:=by omega
  have qd:RB Y.drew g sp d1:=hrY;refine DrawE.ord [13,15] [0,1,2,3,4,5,6,7,8,9,10,11,12,13,14,15] (by kernel_rfl) ⟨K0,rfl,by omega,?_⟩;refine⟨_,zp qd hx2,I0,rfl,by omega,?_⟩;refine⟨_,zp qd hx1,I0,rfl,by omega,?_⟩;refine zE k5 rfl qd hx1 d1[K0]! fun V1t q1t g1t=>⟨K0,rfl,by omega,?_⟩;refine zE k5 rfl q1t (by rw [Array.size_setIfInBounds];exact hx2) d1[I0]! fun V2t q2t g2t=>?_;have q2t:RB V2t g sp (swp d1 (I0) (K0)):=q2t;have z2t:(swp d1 (I0) (K0)).size=d1.size:=Go.Sort.size_swp d1 (I0) (K0);refine⟨((I0+1:Nat):Int),(ze (by first | omega | (dsimp only;omega))).trans (by first | omega | (dsimp only;omega)),((K0-1:Nat):Int),(ze (by first | omega | (dsimp only;omega))).trans (by first | omega | (dsimp only;omega)),?_⟩;obtain⟨d2,hd2⟩:=nm (swp d1 I0 K0);rw [<- hd2] at hPE q2t z2t;have gt0:=zd gY (zd (zt _ g) (zd g1t g2t));have hz2:d2.size=L:=by rw [z2t];exact hz1
  obtain⟨R2,hR2⟩:=nm (Go.Sort.partLoop lt8 a (I0+1) (K0-1) d2);refine⟨Unit,fun _=>⟨[(0,.slice (some ⟨g,0,none⟩) L cap),(1,i64 a),(2,i64 b),(3,i64 pivot),(11,i64 (R2.1:Nat))],[]⟩,fun _ X=>(a<=R2.1/\R2.1<b)/\R2.2.size=L/\RB X g sp R2.2/\w.grownBy X (some g),?_,?_⟩
  ·refine⟨Nat×Nat×Array UInt8,fun s=>⟨[(0,.slice (some ⟨g,0,none⟩) L cap),(1,i64 a),(2,i64 b),(3,i64 pivot),(10,i64 (s.1:Nat)),(11,i64 (s.2.1:Nat))],[]⟩,fun s X=>(a+1<=s.1/\s.1<=s.2.1+1/\s.2.1<b)/\s.2.2.size=L/\Go.Sort.partLoop lt8 a s.1 s.2.1 s.2.2=R2/\RB X g sp s.2.2/\w.grownBy X (some g),fun s=>s.2.1+1-s.1,((I0+1),(K0-1),d2),(cvE rfl rfl),⟨⟨by show a+1<=(I0+1);omega,by show (I0+1)<=(K0-1)+1;omega,by show (K0-1)<b;omega⟩,hz2,hR2.symm,q2t,gt0⟩,?_⟩;rintro⟨i,j,e⟩ X ⟨⟨hi,hij,hjb⟩,hze,hR,hrX,gX⟩;dsimp only at hi hij hjb hze hR hrX;rw [Go.Sort.partLoop_eq] at hR;obtain⟨I,hI⟩:=nm (Go.Sort.scanUp (fun x=>lt8 x e[a]!) e j i);rw [<- hI] at hR;obtain⟨J,hJ⟩:=nm (Go.Sort.scanDown (fun x => !lt8 x e[a]!) e I j);rw [<- hJ] at hR;refine⟨Unit,fun _=>⟨[(0,.slice (some ⟨g,0,none⟩) L cap),(1,i64 a),(2,i64 b),(3,i64 pivot),(10,i64 (I:Nat)),(11,i64 (j:Nat))],[]⟩,fun _ X=>(i<=I/\I<=j+1/\(I<=j->lt8 e[I]! e[a]! = false))/\RB X g sp e/\w.grownBy X (some g),?_,?_⟩
   ·refine⟨Nat,fun u=>⟨[(0,.slice (some ⟨g,0,none⟩) L cap),(1,i64 a),(2,i64 b),(3,i64 pivot),(10,i64 (u:Nat)),(11,i64 (j:Nat))],[]⟩,fun u X=>i<=u/\u<=j+1/\Go.Sort.scanUp (fun x=>lt8 x e[a]!) e j u=I/\RB X g sp e/\w.grownBy X (some g),fun u=>j+1-u,i,(cvE rfl rfl),⟨by omega,by omega,hI.symm,hrX,gX⟩,?_⟩;rintro u Y ⟨hi,hij,hRs,hrY,gY⟩;have gYd:=zd gY (zt Y g);have qd:RB Y.drew g sp e:=hrY;refine DrawE.ord [] [0,1,2,3,4,5,6,7,8,9,10,11,12,13] (by kernel_rfl) (biE (fun h2=>?_) fun h2=>?_)
    ·have h2:(u:Int)<=(j:Int):=dT h2;have h2:u<=j:=(by omega);have hx1:u<e.size:=(by omega);have hx2:a<e.size:=(by omega);refine⟨u,rfl,by omega,?_⟩;refine⟨_,zp qd hx1,a,rfl,by omega,?_⟩;refine⟨_,zp qd hx2,cmo jy ?_⟩;rintro e _ ⟨rfl,rfl⟩;refine⟨Gb _ _,biE (fun h3=>?_) fun h3=>?_⟩
     ·have h3:lt8 e[u]! e[a]! = true:=h3;rw [zdB (p:=fun x=>lt8 x e[a]!) h2 h3] at hRs;exact⟨((u+1:Nat):Int),(ze (by first | omega | (dsimp only;omega))).trans (by first | omega | (dsimp only;omega)),u+1,(cvE rfl rfl),⟨by omega,by omega,hRs,qd,gYd⟩,zdc (by omega)⟩
     ·have h3:lt8 e[u]! e[a]! = false:=h3;rw [zbi (p:=fun x=>lt8 x e[a]!) fun _=>h3] at hRs;subst hRs;exact⟨(),(cvE rfl rfl),⟨hi,hij,fun _=>h3⟩,qd,gYd⟩
    ·have h2:¬ (u:Int)<=(j:Int):=dF h2;refine Gg (fun h=>by cases h) (fun _=>?_);rw [zbi (p:=fun x=>lt8 x e[a]!) fun h=>Gq h (by omega)] at hRs;subst hRs;exact⟨(),(cvE rfl rfl),⟨hi,hij,fun h=>Gq h (by omega)⟩,qd,gYd⟩
   rintro _ Y ⟨⟨hI1,hI2,hI3⟩,hrY,gY⟩;refine⟨Unit,fun _=>⟨[(0,.slice (some ⟨g,0,none⟩) L cap),(1,i64 a),(2,i64 b),(3,i64 pivot),(10,i64 (I:Nat)),(11,i64 (J:Nat))],[]⟩,fun _ X=>(J<=j/\I<=J+1/\(I<=J->(!lt8 e[J]! e[a]!)=false))/\RB X g sp e/\w.grownBy X (some g),?_,?_⟩
   ·refine⟨Nat,fun k=>⟨[(0,.slice (some ⟨g,0,none⟩) L cap),(1,i64 a),(2,i64 b),(3,i64 pivot),(10,i64 (I:Nat)),(11,i64 (k:Nat))],[]⟩,fun k X=>k<=j/\I<=k+1/\Go.Sort.scanDown (fun x => !lt8 x e[a]!) e I k=J/\RB X g sp e/\w.grownBy X (some g),fun k=>k,j,(cvE rfl rfl),⟨UW _,by omega,hJ.symm,hrY,gY⟩,?_⟩;rintro k Y ⟨hi,hij,hRs,hrY,gY⟩;have gYd:=zd gY (zt Y g);have qd:RB Y.drew g sp e:=hrY;refine DrawE.ord [] [0,1,2,3,4,5,6,7,8,9,10,11,12,13,14] (by kernel_rfl) (biE (fun h2=>?_) fun h2=>?_)
    ·have h2:(I:Int)<=(k:Int):=dT h2;have h2:I<=k:=(by omega);have hx1:k<e.size:=(by omega);have hx2:a<e.size:=(by omega);refine⟨k,rfl,by omega,?_⟩;refine⟨_,zp qd hx1,a,rfl,by omega,?_⟩;refine⟨_,zp qd hx2,cmo jy ?_⟩;rintro e _ ⟨rfl,rfl⟩;refine⟨Gb _ _,biE (fun h3=>?_) fun h3=>?_⟩
     ·have h3:(!lt8 e[k]! e[a]!)=true:=h3;obtain⟨m,rfl⟩:∃ m,k=m+1:=⟨k-1,by omega⟩;rw [zcl (p:=fun x => !lt8 x e[a]!) h2 h3] at hRs;exact⟨((m:Nat):Int),(ze (by first | omega | (dsimp only;omega))).trans (by first | omega | (dsimp only;omega)),m,(cvE rfl rfl),⟨by omega,by omega,hRs,qd,gYd⟩,QB m⟩
     ·have h3:(!lt8 e[k]! e[a]!)=false:=h3;rw [zao (p:=fun x => !lt8 x e[a]!) fun _=>h3] at hRs;subst hRs;exact⟨(),(cvE rfl rfl),⟨hi,hij,fun _=>h3⟩,qd,gYd⟩
    ·have h2:¬ (I:Int)<=(k:Int):=dF h2;refine Gg (fun h=>by cases h) (fun _=>?_);rw [zao (p:=fun x => !lt8 x e[a]!) fun h=>Gq h (by omega)] at hRs;subst hRs;exact⟨(),(cvE rfl rfl),⟨hi,hij,fun h=>Gq h (by omega)⟩,qd,gYd⟩
   rintro _ Z ⟨⟨hJ1,hJ2,hJ3⟩,hrZ,gZ⟩;refine biE (fun hc=>?_) fun hc=>?_
   ·have hc:(J:Int)<(I:Int):=dT hc;rw [Gp (by omega)] at hR;subst hR;exact⟨(),(cvE rfl rfl),⟨by show a<=J;omega,by show J<b;omega⟩,hze,hrZ,gZ⟩
   ·have hc:¬ (J:Int)<(I:Int):=dF hc;rw [Gn (by omega)] at hR;have hne:I≠J:=fun h=>by
     have e1:=hI3 (by omega);have e2:=hJ3 (by omega);rw [h] at e1;rw [e1] at e2
     cases e2
    have hx1:I<e.size:=(by omega);have hx2:J<e.size:=(by omega);have qe:RB Z.drew g sp e:=hrZ;refine DrawE.ord [13,15] [0,1,2,3,4,5,6,7,8,9,10,11,12,13,14,15] (by kernel_rfl) ⟨J,rfl,by omega,?_⟩;refine⟨_,zp qe hx2,I,rfl,by omega,?_⟩;refine⟨_,zp qe hx1,I,rfl,by omega,?_⟩;refine zE k5 rfl qe hx1 e[J]! fun V1 q1 g1=>⟨J,rfl,by omega,?_⟩;refine zE k5 rfl q1 (by rw [Array.size_setIfInBounds];exact hx2) e[I]! fun V2 q2 g2=>?_;have q2:RB V2 g sp (swp e (I) (J)):=q2;have z2:(swp e (I) (J)).size=e.size:=Go.Sort.size_swp e (I) (J);exact⟨((I+1:Nat):Int),(ze (by first | omega | (dsimp only;omega))).trans (by first | omega | (dsimp only;omega)),((J-1:Nat):Int),(ze (by first | omega | (dsimp only;omega))).trans (by first | omega | (dsimp only;omega)),(I+1,J-1,swp e I J),(cvE rfl rfl),⟨⟨by show a+1<=I+1;omega,by show I+1<=J-1+1;omega,by show J-1<b;omega⟩,by show (swp e I J).size=L;rw [z2];exact hze,hR,q2,zd gZ (zd (zt _ g) (zd g1 g2))⟩,by show J-1+1-(I+1)<j+1-i;omega⟩
  rintro _ X2 ⟨⟨hm1,hm2⟩,hzR,hrX2,gX2⟩;rw [<- hR2] at hPE;have hy1:R2.1<R2.2.size:=by omega
  have hy2:a<R2.2.size:=by omega
  have qf:RB X2.drew g sp R2.2:=hrX2;refine DrawE.ord [13,15] [0,1,2,3,4,5,6,7,8,9,10,11,12,13,14,15] (by kernel_rfl) ⟨a,rfl,by omega,?_⟩;refine⟨_,zp qf hy2,R2.1,rfl,by omega,?_⟩;refine⟨_,zp qf hy1,R2.1,rfl,by omega,?_⟩;refine zE k5 rfl qf hy1 R2.2[a]! fun V1u q1u g1u=>⟨a,rfl,by omega,?_⟩;refine zE k5 rfl q1u (by rw [Array.size_setIfInBounds];exact hy2) R2.2[R2.1]! fun V2u q2u g2u=>?_;have q2u:RB V2u g sp (swp R2.2 (R2.1) (a)):=q2u;have z2u:(swp R2.2 (R2.1) (a)).size=R2.2.size:=Go.Sort.size_swp R2.2 (R2.1) (a);exact⟨R2.1,false,_,hPE,rfl,q2u,zd gX2 (zd (zt _ g) (zd g1u g2u))⟩
theorem zn7 (hr:RB w g sp d) (hL:d.size=L) (hap:a<=pivot) (hpb:pivot<b) (hb:b<=L) (hl:L<=1000000) :
  Calls PG 144 #[.slice (some ⟨g,0,none⟩) L cap,i64 a,i64 b,i64 pivot] w fun e w'=>∃ m d',Go.Sort.partitionEqual lt8 d a b pivot=(m,d')/\e = .returned (i64 (m:Nat))/\RB w' g sp d'/\w.grownBy w' (some g):=by
 refine jf 84 [.slice (some ⟨g,0,none⟩) L cap,i64 a,i64 b,i64 pivot] (.s .p (.s .p (.s .p (.c (.b (.l (.b (.c .p (.c .p .p))))) .p)))) Tryz.func144 ?_;have ha1:a<d.size:=by omega
 have ha2:pivot<d.size:=by omega
 have q0:RB w.drew g sp d:=hr;refine DrawE.ord [13,15] [0,1,2,3,4,5,6,7,8,9,10,11,12,13,14,15] (by kernel_rfl) ⟨pivot,rfl,by omega,?_⟩;refine⟨_,zp q0 ha2,a,rfl,by omega,?_⟩;refine⟨_,zp q0 ha1,a,rfl,by omega,?_⟩;refine zE k5 rfl q0 ha1 d[pivot]! fun V1s q1s g1s=>⟨pivot,rfl,by omega,?_⟩;refine zE k5 rfl q1s (by rw [Array.size_setIfInBounds];exact ha2) d[a]! fun V2s q2s g2s=>?_;have q2s:RB V2s g sp (swp d (a) (pivot)):=q2s;have z2s:(swp d (a) (pivot)).size=d.size:=Go.Sort.size_swp d (a) (pivot);obtain⟨d1,hd1⟩:=nm (swp d a pivot);rw [<- hd1] at q2s z2s;have g0:=zd (zt w g) (zd g1s g2s);have hz1:d1.size=L:=by rw [z2s];exact hL
 refine⟨((a+1:Nat):Int),(ze (by first | omega | (dsimp only;omega))).trans (by first | omega | (dsimp only;omega)),?_⟩;obtain⟨J0,hJ0⟩:=nm (b-1);refine⟨((J0:Nat):Int),(ze (by first | omega | (dsimp only;omega))).trans (by first | omega | (dsimp only;omega)),?_⟩;have hPE:Go.Sort.partitionEqual lt8 d a b pivot=Go.Sort.partEqLoop lt8 a (a+1) J0 d1:=by rw [hJ0,hd1];rfl
 obtain⟨R2,hR2⟩:=nm (Go.Sort.partEqLoop lt8 a (a+1) J0 d1);refine⟨Unit,fun _=>⟨[(0,.slice (some ⟨g,0,none⟩) L cap),(1,i64 a),(2,i64 b),(3,i64 pivot),(9,i64 (R2.1:Nat))],[]⟩,fun _ X=>(a<=R2.1/\R2.1<=b)/\R2.2.size=L/\RB X g sp R2.2/\w.grownBy X (some g),?_,?_⟩
 ·refine⟨Nat×Nat×Array UInt8,fun s=>⟨[(0,.slice (some ⟨g,0,none⟩) L cap),(1,i64 a),(2,i64 b),(3,i64 pivot),(9,i64 (s.1:Nat)),(10,i64 (s.2.1:Nat))],[]⟩,fun s X=>(a+1<=s.1/\s.1<=s.2.1+1/\s.2.1<b)/\s.2.2.size=L/\Go.Sort.partEqLoop lt8 a s.1 s.2.1 s.2.2=R2/\RB X g sp s.2.2/\w.grownBy X (some g),fun s=>s.2.1+1-s.1,((a+1),J0,d1),(cvE rfl rfl),⟨⟨by show a+1<=(a+1);omega,by show (a+1)<=J0+1;omega,by show J0<b;omega⟩,hz1,hR2.symm,q2s,g0⟩,?_⟩;rintro⟨i,j,e⟩ X ⟨⟨hi,hij,hjb⟩,hze,hR,hrX,gX⟩;dsimp only at hi hij hjb hze hR hrX;rw [Go.Sort.partEqLoop_eq] at hR;obtain⟨I,hI⟩:=nm (Go.Sort.scanUp (fun x => !lt8 e[a]! x) e j i);rw [<- hI] at hR;obtain⟨J,hJ⟩:=nm (Go.Sort.scanDown (fun x=>lt8 e[a]! x) e I j);rw [<- hJ] at hR;refine⟨Unit,fun _=>⟨[(0,.slice (some ⟨g,0,none⟩) L cap),(1,i64 a),(2,i64 b),(3,i64 pivot),(9,i64 (I:Nat)),(10,i64 (j:Nat))],[]⟩,fun _ X=>(i<=I/\I<=j+1/\(I<=j->(!lt8 e[a]! e[I]!)=false))/\RB X g sp e/\w.grownBy X (some g),?_,?_⟩
  ·refine⟨Nat,fun u=>⟨[(0,.slice (some ⟨g,0,none⟩) L cap),(1,i64 a),(2,i64 b),(3,i64 pivot),(9,i64 (u:Nat)),(10,i64 (j:Nat))],[]⟩,fun u X=>i<=u/\u<=j+1/\Go.Sort.scanUp (fun x => !lt8 e[a]! x) e j u=I/\RB X g sp e/\w.grownBy X (some g),fun u=>j+1-u,i,(cvE rfl rfl),⟨by omega,by omega,hI.symm,hrX,gX⟩,?_⟩;rintro u Y ⟨hi,hij,hRs,hrY,gY⟩;have gYd:=zd gY (zt Y g);have qd:RB Y.drew g sp e:=hrY;refine DrawE.ord [] [0,1,2,3,4,5,6,7,8,9,10,11,12,13,14] (by kernel_rfl) (biE (fun h2=>?_) fun h2=>?_)
   ·have h2:(u:Int)<=(j:Int):=dT h2;have h2:u<=j:=(by omega);have hx1:u<e.size:=(by omega);have hx2:a<e.size:=(by omega);refine⟨a,rfl,by omega,?_⟩;refine⟨_,zp qd hx2,u,rfl,by omega,?_⟩;refine⟨_,zp qd hx1,cmo jy ?_⟩;rintro e _ ⟨rfl,rfl⟩;refine⟨Gb _ _,biE (fun h3=>?_) fun h3=>?_⟩
    ·have h3:(!lt8 e[a]! e[u]!)=true:=h3;rw [zdB (p:=fun x => !lt8 e[a]! x) h2 h3] at hRs;exact⟨((u+1:Nat):Int),(ze (by first | omega | (dsimp only;omega))).trans (by first | omega | (dsimp only;omega)),u+1,(cvE rfl rfl),⟨by omega,by omega,hRs,qd,gYd⟩,zdc (by omega)⟩
    ·have h3:(!lt8 e[a]! e[u]!)=false:=h3;rw [zbi (p:=fun x => !lt8 e[a]! x) fun _=>h3] at hRs;subst hRs;exact⟨(),(cvE rfl rfl),⟨hi,hij,fun _=>h3⟩,qd,gYd⟩
   ·have h2:¬ (u:Int)<=(j:Int):=dF h2;refine Gg (fun h=>by cases h) (fun _=>?_);rw [zbi (p:=fun x => !lt8 e[a]! x) fun h=>Gq h (by omega)] at hRs;subst hRs;exact⟨(),(cvE rfl rfl),⟨hi,hij,fun h=>Gq h (by omega)⟩,qd,gYd⟩
  rintro _ Y ⟨⟨hI1,hI2,hI3⟩,hrY,gY⟩;refine⟨Unit,fun _=>⟨[(0,.slice (some ⟨g,0,none⟩) L cap),(1,i64 a),(2,i64 b),(3,i64 pivot),(9,i64 (I:Nat)),(10,i64 (J:Nat))],[]⟩,fun _ X=>(J<=j/\I<=J+1/\(I<=J->lt8 e[a]! e[J]! = false))/\RB X g sp e/\w.grownBy X (some g),?_,?_⟩
  ·refine⟨Nat,fun k=>⟨[(0,.slice (some ⟨g,0,none⟩) L cap),(1,i64 a),(2,i64 b),(3,i64 pivot),(9,i64 (I:Nat)),(10,i64 (k:Nat))],[]⟩,fun k X=>k<=j/\I<=k+1/\Go.Sort.scanDown (fun x=>lt8 e[a]! x) e I k=J/\RB X g sp e/\w.grownBy X (some g),fun k=>k,j,(cvE rfl rfl),⟨UW _,by omega,hJ.symm,hrY,gY⟩,?_⟩;rintro k Y ⟨hi,hij,hRs,hrY,gY⟩;have gYd:=zd gY (zt Y g);have qd:RB Y.drew g sp e:=hrY;refine DrawE.ord [] [0,1,2,3,4,5,6,7,8,9,10,11,12,13] (by kernel_rfl) (biE (fun h2=>?_) fun h2=>?_)
   ·have h2:(I:Int)<=(k:Int):=dT h2;have h2:I<=k:=(by omega);have hx1:k<e.size:=(by omega);have hx2:a<e.size:=(by omega);refine⟨a,rfl,by omega,?_⟩;refine⟨_,zp qd hx2,k,rfl,by omega,?_⟩;refine⟨_,zp qd hx1,cmo jy ?_⟩;rintro e _ ⟨rfl,rfl⟩;refine⟨Gb _ _,biE (fun h3=>?_) fun h3=>?_⟩
    ·have h3:lt8 e[a]! e[k]! = true:=h3;obtain⟨m,rfl⟩:∃ m,k=m+1:=⟨k-1,by omega⟩;rw [zcl (p:=fun x=>lt8 e[a]! x) h2 h3] at hRs;exact⟨((m:Nat):Int),(ze (by first | omega | (dsimp only;omega))).trans (by first | omega | (dsimp only;omega)),m,(cvE rfl rfl),⟨by omega,by omega,hRs,qd,gYd⟩,QB m⟩
    ·have h3:lt8 e[a]! e[k]! = false:=h3;rw [zao (p:=fun x=>lt8 e[a]! x) fun _=>h3] at hRs;subst hRs;exact⟨(),(cvE rfl rfl),⟨hi,hij,fun _=>h3⟩,qd,gYd⟩
   ·have h2:¬ (I:Int)<=(k:Int):=dF h2;refine Gg (fun h=>by cases h) (fun _=>?_);rw [zao (p:=fun x=>lt8 e[a]! x) fun h=>Gq h (by omega)] at hRs;subst hRs;exact⟨(),(cvE rfl rfl),⟨hi,hij,fun h=>Gq h (by omega)⟩,qd,gYd⟩
  rintro _ Z ⟨⟨hJ1,hJ2,hJ3⟩,hrZ,gZ⟩;refine biE (fun hc=>?_) fun hc=>?_
  ·have hc:(J:Int)<(I:Int):=dT hc;rw [Gp (by omega)] at hR;subst hR;exact⟨(),(cvE rfl rfl),⟨by show a<=I;omega,by show I<=b;omega⟩,hze,hrZ,gZ⟩
  ·have hc:¬ (J:Int)<(I:Int):=dF hc;rw [Gn (by omega)] at hR;have hne:I≠J:=fun h=>by
    have e1:=hI3 (by omega);have e2:=hJ3 (by omega);rw [h] at e1;rw [e2] at e1
    cases e1
   have hx1:I<e.size:=by omega
   have hx2:J<e.size:=by omega
   have qe:RB Z.drew g sp e:=hrZ;refine DrawE.ord [13,15] [0,1,2,3,4,5,6,7,8,9,10,11,12,13,14,15] (by kernel_rfl) ⟨J,rfl,by omega,?_⟩;refine⟨_,zp qe hx2,I,rfl,by omega,?_⟩;refine⟨_,zp qe hx1,I,rfl,by omega,?_⟩;refine zE k5 rfl qe hx1 e[J]! fun V1 q1 g1=>⟨J,rfl,by omega,?_⟩;refine zE k5 rfl q1 (by rw [Array.size_setIfInBounds];exact hx2) e[I]! fun V2 q2 g2=>?_;have q2:RB V2 g sp (swp e (I) (J)):=q2;have z2:(swp e (I) (J)).size=e.size:=Go.Sort.size_swp e (I) (J);exact⟨((I+1:Nat):Int),(ze (by first | omega | (dsimp only;omega))).trans (by first | omega | (dsimp only;omega)),((J-1:Nat):Int),(ze (by first | omega | (dsimp only;omega))).trans (by first | omega | (dsimp only;omega)),(I+1,J-1,swp e I J),(cvE rfl rfl),⟨⟨by show a+1<=I+1;omega,by show I+1<=J-1+1;omega,by show J-1<b;omega⟩,by show (swp e I J).size=L;rw [z2];exact hze,hR,q2,zd gZ (zd (zt _ g) (zd g1 g2))⟩,by show J-1+1-(I+1)<j+1-i;omega⟩
 rintro _ X ⟨⟨hm1,hm2⟩,hzR,hrX,gX⟩;exact⟨R2.1,R2.2,hPE.trans hR2.symm,rfl,hrX,gX⟩
end
theorem zmB {d:Array UInt8} {b i:Nat} (h:i<b) (hp:lt8 d[i]! d[i-1]! = false):Go.Sort.scanSorted lt8 d b i=Go.Sort.scanSorted lt8 d b (i+1):=by
 rw [Go.Sort.scanSorted,Gp (by rw [Us h,hp];rfl)]
theorem zi7 {d:Array UInt8} {b i:Nat} (h:i<b->lt8 d[i]! d[i-1]! = true):Go.Sort.scanSorted lt8 d b i=i:=by
 rw [Go.Sort.scanSorted];by_cases e:i<b
 ·rw [Gn (by rw [h e,Uw,Ui];exact Kv)]
 ·rw [Gn (by rw [Uh e];exact Kv)]
section
variable {w:Wd} {g cap L a b:Nat} {sp:List Value} {d:Array UInt8}
theorem zrh (hr:RB w g sp d) (hL:d.size=L) (hab:a<b) (hb:b<=L) (hl:L<=1000000) :
  Calls PG 141 #[.slice (some ⟨g,0,none⟩) L cap,i64 a,i64 b] w fun e w'=>e = .returned (.tuple #[])/\RB w' g sp (Go.Sort.reverseRange d a b)/\w.grownBy w' (some g):=by
 refine zH 32 [.slice (some ⟨g,0,none⟩) L cap,i64 a,i64 b] Tryz.func141 ?_;obtain⟨R,hR⟩:=nm (Go.Sort.reverseRange d a b);rw [<- hR];refine⟨((b-1:Nat):Int),(ze (by first | omega | (dsimp only;omega))).trans (by first | omega | (dsimp only;omega)),Nat×Nat×Array UInt8,fun s=>⟨[(0,.slice (some ⟨g,0,none⟩) L cap),(1,i64 a),(2,i64 b),(6,i64 (s.1:Nat)),(7,i64 (s.2.1:Nat))],[]⟩,fun s X=>s.2.1<b/\s.2.2.size=L/\Go.Sort.reverseLoop s.1 s.2.1 s.2.2=R/\RB X g sp s.2.2/\w.grownBy X (some g),fun s=>s.2.1-s.1,(a,b-1,d),(cvE rfl rfl),⟨by show b-1<b;omega,hL,hR.symm,hr,z6 _ _⟩,?_⟩;rintro⟨i,j,e⟩ X ⟨hj,hze,hR1,hrX,gX⟩;dsimp only at hj hze hR1 hrX;rw [Go.Sort.reverseLoop] at hR1;refine biE (fun hc=>?_) fun hc=>?_
 ·have hc:(i:Int)<(j:Int):=dT hc;rw [Gp (by omega)] at hR1;have hx1:i<e.size:=by omega
  have hx2:j<e.size:=by omega
  have qd:RB X.drew g sp e:=hrX;refine DrawE.ord [13,15] [0,1,2,3,4,5,6,7,8,9,10,11,12,13,14,15] (by kernel_rfl) ⟨j,rfl,by omega,?_⟩;refine⟨_,zp qd hx2,i,rfl,by omega,?_⟩;refine⟨_,zp qd hx1,i,rfl,by omega,?_⟩;refine zE k5 rfl qd hx1 e[j]! fun V1 q1 g1=>⟨j,rfl,by omega,?_⟩;refine zE k5 rfl q1 (by rw [Array.size_setIfInBounds];exact hx2) e[i]! fun V2 q2 g2=>?_;have q2:RB V2 g sp (swp e (i) (j)):=q2;have z2:(swp e (i) (j)).size=e.size:=Go.Sort.size_swp e (i) (j);exact⟨((i+1:Nat):Int),(ze (by first | omega | (dsimp only;omega))).trans (by first | omega | (dsimp only;omega)),((j-1:Nat):Int),(ze (by first | omega | (dsimp only;omega))).trans (by first | omega | (dsimp only;omega)),(i+1,j-1,swp e i j),(cvE rfl rfl),⟨by show j-1<b;omega,by show (swp e i j).size=L;rw [z2];exact hze,hR1,q2,zd gX (zd (zt _ g) (zd g1 g2))⟩,by show j-1-(i+1)<j-i;omega⟩
 ·have hc:¬ (i:Int)<(j:Int):=dF hc;rw [Gn (by omega)] at hR1;exact⟨rfl,hR1▸hrX,gX⟩
theorem zmO (hr:RB w g sp d) (hL:d.size=L) (hab:a<b) (hb:b<=L) (hl:L<=1000000) :
  Calls PG 142 #[.slice (some ⟨g,0,none⟩) L cap,i64 a,i64 b] w fun e w'=>∃ d' ok,Go.Sort.partialInsertionSort lt8 d a b=(d',ok)/\e = .returned (.bool ok)/\RB w' g sp d'/\w.grownBy w' (some g):=by
 refine jf 133 [.slice (some ⟨g,0,none⟩) L cap,i64 a,i64 b] (.s .p (.s .p (.s (.s .p (.b (.l (.s .p (.c (.b (.c .p (.s .p (.s .p (.s .p (.c .p .p)))))) .p))))) .p))) Tryz.func142 ?_;obtain⟨R,hR⟩:=nm (Go.Sort.partialInsertionSort lt8 d a b);have fin:∀ Z d' ok,(d',ok)=R->RB Z g sp d'->w.grownBy Z (some g)->∃ d'' ok',Go.Sort.partialInsertionSort lt8 d a b=(d'',ok')/\Ending.returned (.bool ok) = .returned (.bool ok')/\RB Z g sp d''/\w.grownBy Z (some g):=fun Z d' ok e q gz=>⟨d',ok,by rw [<- hR,<- e],rfl,q,gz⟩;refine⟨((a+1:Nat):Int),(ze (by first | omega | (dsimp only;omega))).trans (by first | omega | (dsimp only;omega)),Nat×Nat×Array UInt8,fun s=>⟨[(0,.slice (some ⟨g,0,none⟩) L cap),(1,i64 a),(2,i64 b),(7,i64 (s.2.1:Nat)),(8,i64 (s.1:Nat))],[]⟩,fun s X=>(s.1<=5/\a+1<=s.2.1/\s.2.1<=b)/\s.2.2.size=L/\Go.Sort.partialIns lt8 a b (5-s.1) s.2.1 s.2.2=R/\RB X g sp s.2.2/\w.grownBy X (some g),fun s=>5-s.1,(0,a+1,d),(cvE rfl rfl),⟨⟨by show 0<=5;decide,UW _,by show a+1<=b;omega⟩,hL,hR.symm,hr,z6 _ _⟩,?_⟩;rintro⟨n,i,e⟩ X ⟨⟨hn,hi,hib⟩,hze,hR1,hrX,gX⟩;dsimp only at hn hi hib hze hR1 hrX;refine biE (fun hc=>?_) fun hc=>?_
 ·have hc:(n:Int)<5:=dT hc;have hn5:5-n=(5-(n+1))+1:=by omega
  rw [hn5] at hR1;obtain⟨I,hI⟩:=nm (Go.Sort.scanSorted lt8 e b i);have hR1:(if I=b then (e,true) else if b-a<50 then (e,false) else Go.Sort.partialIns lt8 a b (5-(n+1)) I (if b-I ≥ 2 then Go.Sort.shiftUp lt8 b (I+1) (if I-a ≥ 2 then Go.Sort.shiftDown lt8 (I-1) (swp e I (I-1)) else swp e I (I-1)) else (if I-a ≥ 2 then Go.Sort.shiftDown lt8 (I-1) (swp e I (I-1)) else swp e I (I-1))))=R:=by rw [hI];exact hR1
  obtain⟨D1,hD1⟩:=nm (swp e I (I-1));obtain⟨D2,hD2⟩:=nm ((if I-a ≥ 2 then Go.Sort.shiftDown lt8 (I-1) D1 else D1));obtain⟨D3,hD3⟩:=nm ((if b-I ≥ 2 then Go.Sort.shiftUp lt8 b (I+1) D2 else D2));rw [<- hD1,<- hD2,<- hD3] at hR1;refine⟨Unit,fun _=>⟨[(0,.slice (some ⟨g,0,none⟩) L cap),(1,i64 a),(2,i64 b),(7,i64 (I:Nat)),(8,i64 (n:Nat))],[]⟩,fun _ Y=>(a+1<=I/\I<=b)/\D3.size=L/\Go.Sort.partialIns lt8 a b (5-(n+1)) I D3=R/\RB Y g sp D3/\w.grownBy Y (some g),?_,?_⟩
  ·refine⟨Unit,fun _=>⟨[(0,.slice (some ⟨g,0,none⟩) L cap),(1,i64 a),(2,i64 b),(7,i64 (I:Nat)),(8,i64 (n:Nat))],[]⟩,fun _ Y=>(a+1<=I/\I<=b)/\RB Y g sp e/\w.grownBy Y (some g),?_,?_⟩
   ·refine⟨Nat,fun k=>⟨[(0,.slice (some ⟨g,0,none⟩) L cap),(1,i64 a),(2,i64 b),(7,i64 (k:Nat)),(8,i64 (n:Nat))],[]⟩,fun k Y=>(a+1<=k/\k<=b)/\Go.Sort.scanSorted lt8 e b k=I/\RB Y g sp e/\w.grownBy Y (some g),fun k=>b-k,i,(cvE rfl rfl),⟨⟨hi,hib⟩,hI.symm,hrX,gX⟩,?_⟩;rintro k Y ⟨⟨hk1,hk2⟩,hRs,hrY,gY⟩;have gYd:=zd gY (zt Y g);have qd:RB Y.drew g sp e:=hrY;refine DrawE.ord [] [0,1,2,3,4,5,6,7,8,9,10,11,12,13,14,15] (by kernel_rfl) (biE (fun h2=>?_) fun h2=>?_)
    ·have h2:(k:Int)<(b:Int):=dT h2;have h2:k<b:=(by omega);have hx1:k<e.size:=(by omega);have hx2:k-1<e.size:=(by omega);refine⟨k,rfl,by omega,?_⟩;refine⟨_,zp qd hx1,((k-1:Nat):Int),(ze (by first | omega | (dsimp only;omega))).trans (by first | omega | (dsimp only;omega)),k-1,rfl,by omega,?_⟩;refine⟨_,zp qd hx2,cmo jy ?_⟩;rintro e _ ⟨rfl,rfl⟩;refine⟨Gb _ _,biE (fun h3=>?_) fun h3=>?_⟩
     ·have h3:(!lt8 e[k]! e[k-1]!)=true:=h3;have h3:lt8 e[k]! e[k-1]! = false:=(by simpa using h3);rw [zmB h2 h3] at hRs;exact⟨((k+1:Nat):Int),(ze (by first | omega | (dsimp only;omega))).trans (by first | omega | (dsimp only;omega)),k+1,(cvE rfl rfl),⟨⟨by omega,by omega⟩,hRs,qd,gYd⟩,zdc (by omega)⟩
     ·have h3:(!lt8 e[k]! e[k-1]!)=false:=h3;have h3:lt8 e[k]! e[k-1]! = true:=(by simpa using h3);rw [zi7 fun _=>h3] at hRs;subst hRs;exact⟨(),(cvE rfl rfl),⟨hk1,hk2⟩,qd,gYd⟩
    ·have h2:¬ (k:Int)<(b:Int):=dF h2;refine Gg (fun h=>by cases h) (fun _=>?_);rw [zi7 fun h=>Gq h (by omega)] at hRs;subst hRs;exact⟨(),(cvE rfl rfl),⟨hk1,hk2⟩,qd,gYd⟩
   rintro _ Y ⟨⟨hI1,hI2⟩,hrY,gY⟩;refine biE (fun h=>?_) fun h=>?_
   ·have h:(I:Int)=(b:Int):=dT h;rw [Gp (by omega)] at hR1;exact fin _ _ _ hR1 hrY gY
   ·have h:¬ (I:Int)=(b:Int):=dF h;have hIb:I<b:=(by omega);rw [Gn (by omega)] at hR1;refine⟨((b-a:Nat):Int),(ze (by first | omega | (dsimp only;omega))).trans (by first | omega | (dsimp only;omega)),biE (fun h5=>?_) fun h5=>?_⟩
    ·have h5:((b-a:Nat):Int)<50:=dT h5;rw [Gp (by omega)] at hR1;exact fin _ _ _ hR1 hrY gY
    ·have h5:¬ ((b-a:Nat):Int)<50:=dF h5;rw [Gn (by omega)] at hR1;have hx1:I<e.size:=(by omega);have hx2:I-1<e.size:=(by omega);have qd:RB Y.drew g sp e:=hrY;refine DrawE.ord [15,17] [0,1,2,3,4,5,6,7,8,9,10,11,12,13,14,15,16,17] (by kernel_rfl) ⟨((I-1:Nat):Int),(ze (by first | omega | (dsimp only;omega))).trans (by first | omega | (dsimp only;omega)),((I-1:Nat):Int),(ze (by first | omega | (dsimp only;omega))).trans (by first | omega | (dsimp only;omega)),I-1,rfl,by omega,?_⟩;refine⟨_,zp qd hx2,I,rfl,by omega,?_⟩;refine⟨_,zp qd hx1,I,rfl,by omega,?_⟩;refine zE k5 rfl qd hx1 e[I-1]! fun V1s q1s g1s=>⟨I-1,rfl,by omega,?_⟩;refine zE k5 rfl q1s (by rw [Array.size_setIfInBounds];exact hx2) e[I]! fun V2s q2s g2s=>?_;have q2s:RB V2s g sp (swp e (I) (I-1)):=q2s;have z2s:(swp e (I) (I-1)).size=e.size:=Go.Sort.size_swp e (I) (I-1);rw [<- hD1] at q2s z2s;have gs:=zd gY (zd (zt _ g) (zd g1s g2s));have hz1:D1.size=L:=(by rw [z2s];exact hze);refine⟨Unit,fun _=>⟨[(0,.slice (some ⟨g,0,none⟩) L cap),(1,i64 a),(2,i64 b),(7,i64 (I:Nat)),(8,i64 (n:Nat))],[]⟩,fun _ Z=>D2.size=L/\RB Z g sp D2/\w.grownBy Z (some g),?_,?_⟩
     ·refine⟨((I-a:Nat):Int),(ze (by first | omega | (dsimp only;omega))).trans (by first | omega | (dsimp only;omega)),biE (fun h6=>?_) fun h6=>?_⟩
      ·have h6:(2:Int)<=((I-a:Nat):Int):=dT h6;rw [Gp (by omega)] at hD2;refine⟨((I-1:Nat):Int),(ze (by first | omega | (dsimp only;omega))).trans (by first | omega | (dsimp only;omega)),Nat×Array UInt8,fun s=>⟨[(0,.slice (some ⟨g,0,none⟩) L cap),(1,i64 a),(2,i64 b),(7,i64 (I:Nat)),(8,i64 (n:Nat)),(9,i64 (s.1:Nat))],[]⟩,fun s V=>(s.1<=I-1)/\s.2.size=L/\Go.Sort.shiftDown lt8 s.1 s.2=D2/\RB V g sp s.2/\w.grownBy V (some g),fun s=>s.1,(I-1,D1),(cvE rfl rfl),⟨UW _,hz1,hD2.symm,q2s,gs⟩,?_⟩;rintro⟨k,f⟩ V ⟨hk,hzf,hRf,hrV,gV⟩;dsimp only at hk hzf hRf hrV;refine biE (fun h7=>?_) fun h7=>?_
       ·have h7:(1:Int)<=(k:Int):=dT h7;obtain⟨m,rfl⟩:∃ m,k=m+1:=⟨k-1,by omega⟩;have hRf:(if (!lt8 f[m+1]! f[m]!)=true then f else Go.Sort.shiftDown lt8 m (swp f (m+1) m))=D2:=hRf;have hx3:m+1<f.size:=(by omega);have hx4:m<f.size:=(by omega);have qv:RB V.drew g sp f:=hrV;have gVd:=zd gV (zt V g);refine DrawE.ord [] [0,1,2,3,4,5,6,7,8,9,10] (by kernel_rfl) ⟨m+1,rfl,by omega,?_⟩;refine⟨_,zp qv hx3,((m:Nat):Int),(ze (by first | omega | (dsimp only;omega))).trans (by first | omega | (dsimp only;omega)),m,rfl,by omega,?_⟩;refine⟨_,zp qv hx4,cmo jy ?_⟩;rintro e _ ⟨rfl,rfl⟩;refine⟨Gb _ _,biE (fun h8=>?_) fun h8=>?_⟩
        ·have h8:(!lt8 f[m+1]! f[m]!)=true:=h8;rw [Gp h8] at hRf;subst hRf;exact⟨(),(cvE rfl rfl),hzf,qv,gVd⟩
        ·have h8:(!lt8 f[m+1]! f[m]!)=false:=h8;rw [Gn (by rw [h8];exact Kv)] at hRf;have qw:RB V.drew.drew g sp f:=hrV;refine DrawE.ord [15,17] [0,1,2,3,4,5,6,7,8,9,10,11,12,13,14,15,16,17] (by kernel_rfl) ⟨((m:Nat):Int),(ze (by first | omega | (dsimp only;omega))).trans (by first | omega | (dsimp only;omega)),((m:Nat):Int),(ze (by first | omega | (dsimp only;omega))).trans (by first | omega | (dsimp only;omega)),m,rfl,by omega,?_⟩;refine⟨_,zp qw hx4,m+1,rfl,by omega,?_⟩;refine⟨_,zp qw hx3,m+1,rfl,by omega,?_⟩;refine zE k5 rfl qw hx3 f[m]! fun V1 q1 g1=>⟨m,rfl,by omega,?_⟩;refine zE k5 rfl q1 (by rw [Array.size_setIfInBounds];exact hx4) f[m+1]! fun V2 q2 g2=>?_;have q2:RB V2 g sp (swp f (m+1) (m)):=q2;have z2:(swp f (m+1) (m)).size=f.size:=Go.Sort.size_swp f (m+1) (m);exact⟨((m:Nat):Int),(ze (by first | omega | (dsimp only;omega))).trans (by first | omega | (dsimp only;omega)),(m,swp f (m+1) m),(cvE rfl rfl),⟨by show m<=I-1;omega,by show (swp f _ _).size=L;rw [z2];exact hzf,hRf,q2,zd gVd (zd (zt _ g) (zd g1 g2))⟩,QB m⟩
       ·have h7:¬ (1:Int)<=(k:Int):=dF h7;obtain rfl:k=0:=(by omega);have hRf:f=D2:=hRf;subst hRf;exact⟨(),(cvE rfl rfl),hzf,hrV,gV⟩
      ·have h6:¬ (2:Int)<=((I-a:Nat):Int):=dF h6;rw [Gn (by omega)] at hD2;subst hD2;exact⟨(),(cvE rfl rfl),hz1,q2s,gs⟩
     rintro _ Z ⟨hzZ,hrZ,gZ⟩;refine⟨((b-I:Nat):Int),(ze (by first | omega | (dsimp only;omega))).trans (by first | omega | (dsimp only;omega)),biE (fun h6=>?_) fun h6=>?_⟩
     ·have h6:(2:Int)<=((b-I:Nat):Int):=dT h6;rw [Gp (by omega)] at hD3;refine⟨((I+1:Nat):Int),(ze (by first | omega | (dsimp only;omega))).trans (by first | omega | (dsimp only;omega)),Nat×Array UInt8,fun s=>⟨[(0,.slice (some ⟨g,0,none⟩) L cap),(1,i64 a),(2,i64 b),(7,i64 (I:Nat)),(8,i64 (n:Nat)),(10,i64 (s.1:Nat))],[]⟩,fun s V=>(I+1<=s.1/\s.1<=b)/\s.2.size=L/\Go.Sort.shiftUp lt8 b s.1 s.2=D3/\RB V g sp s.2/\w.grownBy V (some g),fun s=>b-s.1,(I+1,D2),(cvE rfl rfl),⟨⟨UW _,by show I+1<=b;omega⟩,hzZ,hD3.symm,hrZ,gZ⟩,?_⟩;rintro⟨k,f⟩ V ⟨hk,hzf,hRf,hrV,gV⟩;dsimp only at hk hzf hRf hrV;refine biE (fun h7=>?_) fun h7=>?_
      ·have h7:(k:Int)<(b:Int):=dT h7;rw [Go.Sort.shiftUp,Gp (by omega)] at hRf;have hx3:k<f.size:=(by omega);have hx4:k-1<f.size:=(by omega);have qv:RB V.drew g sp f:=hrV;have gVd:=zd gV (zt V g);refine DrawE.ord [] [0,1,2,3,4,5,6,7,8,9,10] (by kernel_rfl) ⟨k,rfl,by omega,?_⟩;refine⟨_,zp qv hx3,((k-1:Nat):Int),(ze (by first | omega | (dsimp only;omega))).trans (by first | omega | (dsimp only;omega)),k-1,rfl,by omega,?_⟩;refine⟨_,zp qv hx4,cmo jy ?_⟩;rintro e _ ⟨rfl,rfl⟩;refine⟨Gb _ _,biE (fun h8=>?_) fun h8=>?_⟩
       ·have h8:(!lt8 f[k]! f[k-1]!)=true:=h8;rw [Gp h8] at hRf;subst hRf;exact⟨(),(cvE rfl rfl),⟨hI1,hI2⟩,hzf,hR1,qv,gVd⟩
       ·have h8:(!lt8 f[k]! f[k-1]!)=false:=h8;rw [Gn (by rw [h8];exact Kv)] at hRf;have qw:RB V.drew.drew g sp f:=hrV;refine DrawE.ord [15,17] [0,1,2,3,4,5,6,7,8,9,10,11,12,13,14,15,16,17] (by kernel_rfl) ⟨((k-1:Nat):Int),(ze (by first | omega | (dsimp only;omega))).trans (by first | omega | (dsimp only;omega)),((k-1:Nat):Int),(ze (by first | omega | (dsimp only;omega))).trans (by first | omega | (dsimp only;omega)),k-1,rfl,by omega,?_⟩;refine⟨_,zp qw hx4,k,rfl,by omega,?_⟩;refine⟨_,zp qw hx3,k,rfl,by omega,?_⟩;refine zE k5 rfl qw hx3 f[k-1]! fun V1 q1 g1=>⟨k-1,rfl,by omega,?_⟩;refine zE k5 rfl q1 (by rw [Array.size_setIfInBounds];exact hx4) f[k]! fun V2 q2 g2=>?_;have q2:RB V2 g sp (swp f (k) (k-1)):=q2;have z2:(swp f (k) (k-1)).size=f.size:=Go.Sort.size_swp f (k) (k-1);exact⟨((k+1:Nat):Int),(ze (by first | omega | (dsimp only;omega))).trans (by first | omega | (dsimp only;omega)),(k+1,swp f k (k-1)),(cvE rfl rfl),⟨⟨by show I+1<=k+1;omega,by show k+1<=b;omega⟩,by show (swp f _ _).size=L;rw [z2];exact hzf,hRf,q2,zd gVd (zd (zt _ g) (zd g1 g2))⟩,zdc (by omega)⟩
      ·have h7:¬ (k:Int)<(b:Int):=dF h7;rw [Go.Sort.shiftUp,Gn (by omega)] at hRf;subst hRf;exact⟨(),(cvE rfl rfl),⟨hI1,hI2⟩,hzf,hR1,hrV,gV⟩
     ·have h6:¬ (2:Int)<=((b-I:Nat):Int):=dF h6;rw [Gn (by omega)] at hD3;subst hD3;exact⟨(),(cvE rfl rfl),⟨hI1,hI2⟩,hzZ,hR1,hrZ,gZ⟩
  rintro _ Y ⟨⟨hI1,hI2⟩,hz3,hR3,hrY,gY⟩;exact⟨((n+1:Nat):Int),(ze (by first | omega | (dsimp only;omega))).trans (by first | omega | (dsimp only;omega)),(n+1,I,D3),(cvE rfl rfl),⟨⟨by show n+1<=5;omega,hI1,hI2⟩,hz3,hR3,hrY,gY⟩,zdc (by omega)⟩
 ·have hc:¬ (n:Int)<5:=dF hc;obtain rfl:n=5:=by omega
  have hR1:(e,false)=R:=hR1;exact fin _ _ _ hR1 hrX gX
end
abbrev zgS (w:Wd) (s:Nat) (v:Int):Prop:=w.heap[s]?=some (.cells #[.int .i64 v] 3 (0,0))
theorem zl0 {w:Wd} {s:Nat} {v:Int} (h:zgS w s v):w.cell? ⟨s,0,none⟩=some (.int .i64 v):=zc (za h) (i:=0) rfl
section
variable {w:Wd} {g cap L a b s:Nat} {v:Int} {sp:List Value} {d:Array UInt8}
theorem zd6 {w2:Wd} (h:RB w g sp d) (hg:w.grownBy w2 (some s)) (hs:s≠g):RB w2 g sp d:=by
 refine RowS.same h (hg.block g (RowS.lt h) fun e=>hs ?_)
 cases e;rfl
theorem zf9 (hr:RB w g sp d) (hL:d.size=L) (hb:zgS w s v) (hs:s≠g) (ha:a<L) (hbL:b<L) (hl:L<=1000000) :
  Calls PG 168 #[.slice (some ⟨g,0,none⟩) L cap,i64 a,i64 b,At0 s] w fun e w'=>(∃ x y:Nat,e = .returned (.tuple #[i64 x,i64 y])/\((x=a/\y=b)\/(x=b/\y=a)))/\(∃ u,zgS w' s u)/\w.grownBy w' (some s):=by
 refine zH 28 [.slice (some ⟨g,0,none⟩) L cap,i64 a,i64 b,At0 s] Tryz.func168 ?_;have qd:RB w.drew g sp d:=hr;have hx1:a<d.size:=by omega
 have hx2:b<d.size:=by omega
 have hbd:zgS w.drew s v:=hb;refine DrawE.ord [] [0,1,2,3,4,5,6,7,8] (by kernel_rfl) ⟨b,rfl,by omega,?_⟩;refine⟨_,zp qd hx2,a,rfl,by omega,?_⟩;refine⟨_,zp qd hx1,cmo jy ?_⟩;rintro e _ ⟨rfl,rfl⟩;refine⟨Gb _ _,biE (fun h=>?_) fun h=>?_⟩
 ·exact⟨_,zl0 hbd,_,rfl,qT k3 rfl hbd (o:=0) (by show 0<1;decide) (v := .int .i64 (IntKind.i64.wrap (v+1))) rfl rfl fun Y fY gY sY=>⟨⟨b,a,rfl,.inr ⟨rfl,rfl⟩⟩,⟨_,fY⟩,zd (zt w s) gY⟩⟩
 ·exact⟨⟨a,b,rfl,.inl ⟨rfl,rfl⟩⟩,⟨_,hbd⟩,zt w s⟩
theorem zjF {c:Nat} (hr:RB w g sp d) (hL:d.size=L) (hb:zgS w s v) (hs:s≠g) (ha:a<L) (hbL:b<L) (hcL:c<L) (hl:L<=1000000) :
  Calls PG 159 #[.slice (some ⟨g,0,none⟩) L cap,i64 a,i64 b,i64 c,At0 s] w fun e w'=>(∃ x:Nat,e = .returned (i64 x)/\(x=a\/x=b\/x=c))/\(∃ u,zgS w' s u)/\w.grownBy w' (some s):=by
 refine zH 36 [.slice (some ⟨g,0,none⟩) L cap,i64 a,i64 b,i64 c,At0 s] Tryz.func159 ?_;refine cmo (zf9 hr hL hb hs ha hbL hl) ?_;rintro e X ⟨⟨x,y,rfl,hxy⟩,⟨u,bX⟩,gX⟩;have rX:=zd6 hr gX hs;refine cmo (zf9 rX hL bX hs (a:=y) (b:=c) (by omega) hcL hl) ?_;rintro e Y ⟨⟨x2,y2,rfl,hxy2⟩,⟨u2,bY⟩,gY⟩;have rY:=zd6 rX gY hs;refine cmo (zf9 rY hL bY hs (a:=x) (b:=x2) (by omega) (by omega) hl) ?_;rintro e Z ⟨⟨x3,y3,rfl,hxy3⟩,bZ,gZ⟩;exact⟨⟨y3,rfl,by omega⟩,bZ,zd gX (zd gY gZ)⟩
theorem zgl (hr:RB w g sp d) (hL:d.size=L) (hb:zgS w s v) (hs:s≠g) (ha:1<=a) (haL:a+1<L) (hl:L<=1000000) :
  Calls PG 158 #[.slice (some ⟨g,0,none⟩) L cap,i64 a,At0 s] w fun e w'=>(∃ x:Nat,e = .returned (i64 x)/\(x=a-1\/x=a\/x=a+1))/\(∃ u,zgS w' s u)/\w.grownBy w' (some s):=by
 refine zH 15 [.slice (some ⟨g,0,none⟩) L cap,i64 a,At0 s] Tryz.func158 ?_;refine⟨((a-1:Nat):Int),(ze (by omega)).trans (by omega),nxI (by omega) (cmo (zjF hr hL hb hs (a:=a-1) (b:=a) (c:=a+1) (by omega) (by omega) haL hl) ?_)⟩;rintro e X ⟨⟨x,rfl,hx⟩,hb,hg⟩;exact⟨⟨x,rfl,hx⟩,hb,hg⟩
theorem zie (n k:Nat) (h:n<=1000000):IntKind.i64.wrap ((n:Int).tdiv (k:Int))=((n/k:Nat):Int):=by
 have e:(n:Int).tdiv (k:Int)=((n/k:Nat):Int):=rfl;have:n/k<=n:=Nat.div_le_self n k;rw [e];generalize n/k=q at this ⊢;exact ze (by omega)
theorem zsQ {a b n q L:Nat} (hn:n=b-a) (hq:4*q<=n) (h2:2<=q) (hb:b<=L):(1<=a+q*1/\a+q*1+1<L)/\(1<=a+q*2/\a+q*2+1<L)/\(1<=a+q*3/\a+q*3+1<L):=by omega
theorem zmN {a b n q x:Nat} (hn:n=b-a) (hq:4*q<=n) (h2:2<=q) (k:Nat) (hk:k=1\/k=2\/k=3) (hx:x=a+q*k-1\/x=a+q*k\/x=a+q*k+1):a<=x/\x<b:=by
 rcases hk with rfl | rfl | rfl <;> omega
theorem zpJ (hr:RB w g sp d) (hL:d.size=L) (hab:a<b) (hbL:b<=L) (hl:L<=1000000) :
  Calls PG 140 #[.slice (some ⟨g,0,none⟩) L cap,i64 a,i64 b] w fun e w'=>(∃ (p:Nat) (h:Int),e = .returned (.tuple #[i64 p,.int .i64 h])/\a<=p/\p<b)/\RB w' g sp d/\w.grownBy w' (some g):=by
 refine jf 57 [.slice (some ⟨g,0,none⟩) L cap,i64 a,i64 b] (.s .p (.s .p (.s .p (.s .p (.s .p (.c .p (.c (.s .p (.d (.c .p .p) .p)) .p))))))) Tryz.func140 ?_;obtain⟨n,hn⟩:=nm (b-a);obtain⟨q,hq⟩:=nm (n/4);have hn1:IntKind.i64.wrap (((b:Nat):Int)-((a:Nat):Int))=(n:Int):=(ze (by omega)).trans (by omega);have hq4:IntKind.i64.wrap ((n:Int).tdiv 4)=(q:Int):=by rw [hq];exact zie n 4 (by omega)
 have hqn:4*q<=n:=by omega
 refine⟨(n:Int),hn1,?_⟩;obtain⟨s,hsz⟩:=nm (w.heap.size);have bS:zgS (w.alloc (.cells #[.int .i64 0] 3)) s 0:=by rw [hsz];exact zy w _
 have hbw:Bw w (w.alloc (.cells #[.int .i64 0] 3)):=zba w _;have hgs:s≠g:=fun e=>by have:=RowS.lt hr;omega
 have rS:RB (w.alloc (.cells #[.int .i64 0] 3)) g sp d:=RowS.below hr hbw;subst hsz;refine⟨by decide,(q:Int),hq4,((q*1:Nat):Int),(ze (by omega)).trans (by omega),((a+q*1:Nat):Int),(ze (by omega)).trans (by omega),by decide,(q:Int),hq4,((q*2:Nat):Int),(ze (by omega)).trans (by omega),((a+q*2:Nat):Int),(ze (by omega)).trans (by omega),Unit,fun _=>⟨[(0,.slice (some ⟨g,0,none⟩) L cap),(1,i64 a),(2,i64 b),(8,i64 n),(9,At0 w.heap.size),(10,i64 (a+q*1:Nat)),(11,i64 (a+q*2:Nat)),(12,i64 (a+q*3:Nat))],[]⟩,fun _ X=>w.alloc (.cells #[.int .i64 0] 3)=X,?_,?_⟩
 ·exact⟨by decide,(q:Int),hq4,((q*3:Nat):Int),(ze (by omega)).trans (by omega),((a+q*3:Nat):Int),(ze (by omega)).trans (by omega),(),(cvE rfl rfl),rfl⟩
 rintro _ _ rfl;have keep:∀ Y,(w.alloc (.cells #[.int .i64 0] 3)).grownBy Y (some w.heap.size)->RB Y g sp d/\w.grownBy Y (some g):=fun Y gY =>
  ⟨zd6 rS gY hgs,zf (hbw.trans (zi gY hbw.size (by omega)))⟩
 refine⟨Nat×Int,fun t=>⟨[(0,.slice (some ⟨g,0,none⟩) L cap),(1,i64 a),(2,i64 b),(9,At0 w.heap.size),(11,i64 (t.1:Nat))],[]⟩,fun t X=>(a<=t.1/\t.1<b)/\zgS X w.heap.size t.2/\(w.alloc (.cells #[.int .i64 0] 3)).grownBy X (some w.heap.size),?_,?_⟩
 ·refine biE (fun hc=>?_) fun hc=>?_
  ·have hc:(8:Int)<=(n:Int):=dT hc;refine⟨(Nat×Nat×Nat)×Int,fun t=>⟨[(0,.slice (some ⟨g,0,none⟩) L cap),(1,i64 a),(2,i64 b),(9,At0 w.heap.size),(10,i64 (t.1.1:Nat)),(11,i64 (t.1.2.1:Nat)),(12,i64 (t.1.2.2:Nat))],[]⟩,fun t X=>((a<=t.1.1/\t.1.1<b)/\(a<=t.1.2.1/\t.1.2.1<b)/\(a<=t.1.2.2/\t.1.2.2<b))/\zgS X w.heap.size t.2/\(w.alloc (.cells #[.int .i64 0] 3)).grownBy X (some w.heap.size),?_,?_⟩
   ·refine biE (fun h5=>?_) fun h5=>?_
    ·have h2q:2<=q:=(by omega);obtain⟨⟨m1,m2⟩,⟨m3,m4⟩,m5,m6⟩:=zsQ hn hqn h2q hbL;have c1:=zgl (cap:=cap) rS hL bS hgs (a:=a+q*1) m1 m2 hl;refine cmo c1 ?_;rintro e X ⟨⟨x,rfl,hx⟩,⟨u,bX⟩,gX⟩;have c2:=zgl (cap:=cap) (keep X gX).1 hL bX hgs (a:=a+q*2) m3 m4 hl;refine cmo c2 ?_;rintro e Y ⟨⟨y,rfl,hy⟩,⟨u2,bY⟩,gY⟩;have gY':=zd gX gY;have c3:=zgl (cap:=cap) (keep Y gY').1 hL bY hgs (a:=a+q*3) m5 m6 hl;refine cmo c3 ?_;rintro e Z ⟨⟨z,rfl,hz⟩,⟨u3,bZ⟩,gZ⟩;exact⟨((x,y,z),u3),(cvE rfl rfl),⟨zmN hn hqn h2q 1 (.inl rfl) hx,zmN hn hqn h2q 2 (.inr (.inl rfl)) hy,zmN hn hqn h2q 3 (.inr (.inr rfl)) hz⟩,bZ,zd gY' gZ⟩
    ·have h2q:2<=q:=(by omega);exact⟨((a+q*1,a+q*2,a+q*3),0),(cvE rfl rfl),⟨zmN hn hqn h2q 1 (.inl rfl) (.inr (.inl rfl)),zmN hn hqn h2q 2 (.inr (.inl rfl)) (.inr (.inl rfl)),zmN hn hqn h2q 3 (.inr (.inr rfl)) (.inr (.inl rfl))⟩,bS,z6 _ _⟩
   ·rintro⟨⟨x,y,z⟩,u⟩ X ⟨⟨hx,hy,hz⟩,bX,gX⟩;dsimp only at hx hy hz bX gX;refine cmo (zjF (keep X gX).1 hL bX hgs (a:=x) (b:=y) (c:=z) (by omega) (by omega) (by omega) hl) ?_;rintro e Y ⟨⟨m,rfl,hm⟩,⟨u2,bY⟩,gY⟩;refine⟨(m,u2),(cvE rfl rfl),⟨?_,?_⟩,bY,zd gX gY⟩ <;> dsimp only <;> omega
  ·refine⟨(a+q*2,0),(cvE rfl rfl),⟨?_,?_⟩,bS,z6 _ _⟩ <;> dsimp only <;> omega
 rintro⟨p,u⟩ X ⟨hp,bX,gX⟩;dsimp only at hp bX gX;obtain⟨k1,k2⟩:=keep X gX;refine⟨_,zl0 bX,biE (fun h=>?_) fun h=>?_⟩
 ·exact⟨⟨p,1,rfl,hp⟩,k1,k2⟩
 ·refine biE (fun h=>?_) fun h=>?_
  ·exact⟨⟨p,2,rfl,hp⟩,k1,k2⟩
  ·exact⟨⟨p,0,rfl,hp⟩,k1,k2⟩
end
theorem zlX {a:Nat} (h:a<2^64):(BitVec.ofInt 64 (a:Int)).toNat=a:=by
 rw [BitVec.ofInt_natCast,BitVec.toNat_ofNat,QD h]
theorem zsA {a b:Nat} (ha:a<2^64) (hb:b<2^64):IntKind.u64.wrap ((BitVec.ofInt IntKind.u64.bits (a:Int)&&&BitVec.ofInt IntKind.u64.bits (b:Int)).toNat:Int)=((a&&&b:Nat):Int):=by
 show IntKind.u64.wrap ((BitVec.ofInt 64 (a:Int)&&&BitVec.ofInt 64 (b:Int)).toNat:Int)=_;rw [Qh,zlX ha,zlX hb];have:a&&&b<=a:=QY;exact zas (by omega)
theorem exU {x:Int} {K:Int->Prop} (k:∀ r:Nat,r<2^64->K (r:Int)):∃ r,IntKind.u64.wrap x=r/\K r:=by
 have h:0<=IntKind.u64.wrap x/\IntKind.u64.wrap x<18446744073709551616:=by
  unfold IntKind.wrap;simp only [IntKind.bits,IntKind.signed,Uj,Ku,Gk];omega
 obtain⟨r,hr⟩:=Int.eq_ofNat_of_zero_le h.1;refine⟨_,rfl,?_⟩;rw [hr];exact k r (by rw [hr] at h;omega)
def zsj (l:List UInt8):Bool:=(List.range l.length).all fun m=>match l[m]? with
 | some u=>decide (u.toNat<=8)&&(decide (m=0)||decide (2^u.toNat<=2*m))
 | none=>false
theorem znH {l:List UInt8} (hs:zsj l=true) {n:Nat} {u:UInt8} (h:l[n]?=some u):u.toNat<=8/\(1<=n->2^u.toNat<=2*n):=by
 have:=Qk.1 hs n (Uo.2 (Js.1 h).1);rw [h] at this;simp only [bAT,QH,dE] at this;exact⟨this.1,fun h1=>this.2.resolve_left (by omega)⟩
theorem znM {s:ByteArray} {n:Nat} {K:UInt8->Prop} (h:n<s.size) (k:∀ u,s.data.toList[n]?=some u->K u):∃ u,s.data.toList[n]?=some u/\K u:=by
 have h:n<s.data.toList.length:=by simpa using h
 exact⟨_,gE h,k _ (gE h)⟩
section
variable {w:Wd} {g cap L a b s:Nat} {v:Int} {sp:List Value} {d:Array UInt8}
theorem zoo {n:Nat} (h:n<65536):Calls PG 147 #[.int .u64 (n:Nat)] w fun e w'=>(∃ m:Nat,e = .returned (i64 m)/\m<=16/\(1<=n->2^m<=2*n))/\w=w':=by
 refine zH 25 [.int .u64 (n:Nat)] Tryz.func147 ?_;refine brN (Uh (by omega)) (brN (Uh (by omega)) (biE (fun hc=>?_) fun hc=>?_))
 ·have hc:(256:Int)<=(n:Int):=dT hc;obtain⟨q,hq⟩:=nm (n/256);have hq1:1<=q/\q<256/\q*256<=n:=by omega
  refine⟨by decide,(q:Int),by
   show (n:Int).fdiv (2^(min (Int.toNat (8:Int)) IntKind.u64.bits))=_;rw [show min (Int.toNat (8:Int)) IntKind.u64.bits=8 from rfl,Jm _ (by decide)];omega,?_⟩
  refine⟨(8:Int),by decide,?_⟩;refine⟨(q:Int),zdU (by omega),q,rfl,zir hq1.2.1 (by kernel_rfl),znM (zir hq1.2.1 (by kernel_rfl)) fun u hu=>?_⟩;obtain⟨t1,t2⟩:=znH (by kernel_rfl) hu;refine⟨(u.toNat:Int),ze (by omega),((8+u.toNat:Nat):Int),(ze (by omega)).trans (by omega),⟨8+u.toNat,rfl,by omega,fun _=>?_⟩,rfl⟩;have:=t2 hq1.1;rw [Nat.pow_add];omega
 ·have hc:¬ (256:Int)<=(n:Int):=dF hc;have hn:n<256:=by omega
  refine⟨(n:Nat),zdU (by omega),n,rfl,zir hn (by kernel_rfl),znM (zir hn (by kernel_rfl)) fun u hu=>?_⟩;obtain⟨t1,t2⟩:=znH (by kernel_rfl) hu;exact⟨(u.toNat:Int),ze (by omega),((0+u.toNat:Nat):Int),(ze (by omega)).trans (by omega),⟨0+u.toNat,rfl,by omega,fun h1=>by rw [UR];exact t2 h1⟩,rfl⟩
theorem zon {n:Nat} (h:n<65536):Calls PG 103 #[.int .u64 (n:Nat)] w fun e w'=>(∃ m:Nat,e = .returned (i64 m)/\m<=16/\(1<=n->2^m<=2*n))/\w=w':=by
 refine zH 8 [.int .u64 (n:Nat)] Tryz.func103 ?_;refine brF (cmo (zoo h) ?_);rintro e _ ⟨⟨m,rfl,h1,h2⟩,rfl⟩;exact⟨⟨m,rfl,h1,h2⟩,rfl⟩
theorem zmV {n:Nat} (h:n<65536) (h1:1<=n):Calls PG 156 #[i64 n] w fun e w'=>(∃ m:Nat,e = .returned (.int .u64 (m:Nat))/\1<=m/\m<=2*n)/\w=w':=by
 refine zH 7 [i64 n] Tryz.func156 ?_;refine⟨(n:Nat),zas (by omega),cmo (zon h) ?_⟩;rintro e _ ⟨⟨m,rfl,h2,h3⟩,rfl⟩;have hp:1<=2^m:=Nat.one_le_two_pow;have:=h3 h1;refine⟨by omega,((2^m:Nat):Int),?_,?_⟩
 ·rw [KM,show min m IntKind.u64.bits=m from Ua (by show m<=64;omega),Int.one_mul];have e:((2:Int)^m)=((2^m:Nat):Int):=by rw [Int.natCast_pow];rfl
  rw [e];exact zas (by omega)
 ·exact⟨⟨2^m,rfl,hp,this⟩,rfl⟩
abbrev zg5 (w:Wd) (s:Nat) (v:Nat):Prop:=w.heap[s]?=some (.cells #[.int .u64 (v:Nat)] 234 (0,0))
theorem zci {w:Wd} {s v:Nat} (h:zg5 w s v):w.cell? ⟨s,0,none⟩=some (.int .u64 (v:Nat)):=zc (za h) (i:=0) rfl
theorem zsd {v:Nat} (hb:zg5 w s v):Calls PG 157 #[At0 s] w fun e w'=>(∃ r:Nat,e = .returned (.int .u64 (r:Nat))/\r<2^64/\zg5 w' s r)/\w.grownBy w' (some s):=by
 refine zH 33 [At0 s] Tryz.func157 ?_;have b0:zg5 w.drew s v:=hb;refine DrawE.ord [9] [0,1,2,3,4,5,6,7,8,9] (by kernel_rfl) ⟨_,zci b0,_,zci b0,by decide,?_⟩;refine exU fun r1 _=>exU fun r2 _=>qT zpV rfl b0 (o:=0) (by show 0<1;decide) (v := .int .u64 (r2:Nat)) rfl rfl fun Y fY gY sY=>?_;have b1:zg5 Y.drew s r2:=fY;refine DrawE.ord [9] [0,1,2,3,4,5,6,7,8,9] (by kernel_rfl) ⟨_,zci b1,_,zci b1,by decide,_,rfl,?_⟩;refine exU fun r4 _=>qT zpV rfl b1 (o:=0) (by show 0<1;decide) (v := .int .u64 (r4:Nat)) rfl rfl fun Z fZ gZ sZ=>?_;have b2:zg5 Z.drew s r4:=fZ;refine DrawE.ord [9] [0,1,2,3,4,5,6,7,8,9] (by kernel_rfl) ⟨_,zci b2,_,zci b2,by decide,?_⟩;refine exU fun r5 _=>exU fun r6 h6=>qT zpV rfl b2 (o:=0) (by show 0<1;decide) (v := .int .u64 (r6:Nat)) rfl rfl fun V fV gV sV=>?_;have b3:zg5 V s r6:=fV;exact⟨_,zci b3,⟨r6,rfl,h6,b3⟩,zd (zt w s) (zd gY (zd (zt _ s) (zd gZ (zd (zt _ s) gV))))⟩
theorem zqD (hr:RB w g sp d) (hL:d.size=L) (hab:a+8<=b) (hbL:b<=L) (hl:L<=60000) :
  Calls PG 139 #[.slice (some ⟨g,0,none⟩) L cap,i64 a,i64 b] w fun e w'=>e = .returned (.tuple #[])/\(∃ d',Go.Sort.PermIn a b d d'/\RB w' g sp d')/\w.grownBy w' (some g):=by
 refine zH 65 [.slice (some ⟨g,0,none⟩) L cap,i64 a,i64 b] Tryz.func139 ?_;obtain⟨n,hn⟩:=nm (b-a);obtain⟨q,hq⟩:=nm (n/4);have hn1:IntKind.i64.wrap (((b:Nat):Int)-((a:Nat):Int))=(n:Int):=(ze (by omega)).trans (by omega);have hq4:IntKind.i64.wrap ((n:Int).tdiv 4)=(q:Int):=by rw [hq];exact zie n 4 (by omega)
 have hq2:2<=q/\4*q<=n:=by omega
 refine⟨(n:Int),hn1,brE (Us (by omega)) ⟨(n:Nat),zas (by omega),?_⟩⟩;obtain⟨s,hsz⟩:=nm (w.heap.size);have hgs:s≠g:=fun e=>by have:=RowS.lt hr;omega
 have hbw:Bw w (w.alloc (.cells #[.int .u64 0] 234)):=zba w _;refine qT zpV rfl (zy w (.cells #[.int .u64 0] 234)) (o:=0) (by show 0<1;decide) (v := .int .u64 (n:Nat)) rfl rfl fun X fX gX sX=>?_;rw [<- hsz] at fX gX;have bX:zg5 X s n:=fX;have hwX:Bw w X:=hbw.trans (zi gX hbw.size (by omega));have rX:RB X g sp d:=RowS.below hr hwX;refine cmo (zmV (n:=n) (by omega) (by omega)) ?_;rintro e _ ⟨⟨md,rfl,hm1,hm2⟩,rfl⟩;refine⟨by decide,(q:Int),hq4,((q*2:Nat):Int),(ze (by omega)).trans (by omega),((a+q*2:Nat):Int),(ze (by omega)).trans (by omega),((a+q*2-1:Nat):Int),(ze (by omega)).trans (by omega),?_⟩;refine⟨Nat×Nat×Array UInt8,fun t=>⟨[(0,.slice (some ⟨g,0,none⟩) L cap),(1,i64 a),(2,i64 b),(6,i64 n),(7,At0 s),(8,.int .u64 (md:Nat)),(9,i64 (t.1:Nat))],[]⟩,
  fun t Y=>(a<=t.1/\t.1<=a+q*2+2)/\(Go.Sort.PermIn a b d t.2.2/\t.2.2.size=L)/\zg5 Y s t.2.1/\RB Y g sp t.2.2/\w.grownBy Y (some g)/\w.heap.size<=s,fun t=>a+q*2+2-t.1,(a+q*2-1,n,d),
  ⟨.cons rfl (.cons rfl (.cons rfl (.cons rfl (.cons (by rw [hsz];rfl) (.cons rfl (.cons rfl .nil)))))),rfl⟩,⟨⟨by dsimp only;omega,by dsimp only;omega⟩,⟨Go.Sort.permIn_refl _ _ _,hL⟩,bX,rX,zf hwX,by omega⟩,?_⟩
 rintro⟨i,v,e⟩ Y ⟨⟨hi1,hi2⟩,⟨hP,hze⟩,bY,rY,gY,hws⟩;dsimp only at hi1 hi2 hP hze bY rY gY;refine⟨by decide,(q:Int),hq4,((q*2:Nat):Int),(ze (by omega)).trans (by omega),((a+q*2:Nat):Int),(ze (by omega)).trans (by omega),((a+q*2+1:Nat):Int),(ze (by omega)).trans (by omega),biE (fun hc=>?_) fun hc=>?_⟩
 ·have hc:(i:Int)<=((a+q*2+1:Nat):Int):=dT hc;refine cmo (zsd bY) ?_;rintro e' Z ⟨⟨r,rfl,hr64,bZ⟩,gZ⟩;have rZ:RB Z g sp e:=zd6 rY gZ hgs;have gwZ:w.grownBy Z (some g):=⟨gZ.os.trans gY.os,gZ.tape.trans gY.tape,gZ.output.trans gY.output,UM gY.size gZ.size,fun k hk hn=>(gZ.block k (nL hk gY.size) (fun h=>by cases h;omega)).trans (gY.block k hk hn)⟩;refine⟨((md-1:Nat):Int),(zas (by omega)).trans (by omega),?_⟩;have hand:r&&&(md-1)<=md-1:=Qy;refine⟨((r&&&(md-1):Nat):Int),zsA hr64 (by omega),?_⟩;obtain⟨o,ho⟩:=nm (r&&&(md-1));rw [<- ho] at hand ⊢;refine⟨(o:Int),ze (by omega),?_⟩;have fin:∀ o':Nat,o'<n->∀ V2,RB V2 g sp (swp e i (a+o'))->Z.grownBy V2 (some g)->(a<=i+1/\i+1<=a+q*2+2)/\(Go.Sort.PermIn a b d (swp e i (a+o'))/\(swp e i (a+o')).size=L)/\zg5 V2 s r/\RB V2 g sp (swp e i (a+o'))/\w.grownBy V2 (some g)/\w.heap.size<=s:=fun o' ho' V2 q2 g2=>by
   have hp:=Go.Sort.swp_permIn e a b i (a+o') hi1 (by omega) (by omega) (by omega) (by omega);exact⟨⟨by omega,by omega⟩,⟨Go.Sort.permIn_trans _ _ _ a b hP hp,by rw [Go.Sort.size_swp];exact hze⟩,(g2.block s (hlt bZ) (fun h=>by cases h;exact hgs rfl)).trans bZ,q2,zd gwZ g2,hws⟩
  have hx1:i<e.size:=by omega
  refine biE (fun h8=>?_) fun h8=>?_
  ·have h8:(n:Int)<=(o:Int):=dT h8;refine⟨((o-n:Nat):Int),(ze (by omega)).trans (by omega),?_⟩;have hx2:a+(o-n)<e.size:=by omega
   have qd:RB Z.drew g sp e:=rZ;refine DrawE.ord [17,19] [0,1,2,3,4,5,6,7,8,9,10,11,12,13,14,15,16,17,18,19] (by kernel_rfl) ⟨((a+(o-n):Nat):Int),(ze (by omega)).trans (by omega),((a+(o-n):Nat):Int),(ze (by omega)).trans (by omega),a+(o-n),rfl,by omega,?_⟩;refine⟨_,zp qd hx2,i,rfl,by omega,?_⟩;refine⟨_,zp qd hx1,i,rfl,by omega,?_⟩;refine zE k5 rfl qd hx1 e[a+(o-n)]! fun V1 q1 g1=>⟨a+(o-n),rfl,by omega,?_⟩;exact zE k5 rfl q1 (by rw [Array.size_setIfInBounds];exact hx2) e[i]! fun V2 q2 g2=>nxI (by omega) ⟨(i+1,r,swp e i (a+(o-n))),(cvE rfl rfl),fin _ (by omega) V2 q2 (zd (zt _ g) (zd g1 g2)),by dsimp only;omega⟩
  ·have h8:¬ (n:Int)<=(o:Int):=dF h8;have hx2:a+o<e.size:=by omega
   have qd:RB Z.drew g sp e:=rZ;refine DrawE.ord [17,19] [0,1,2,3,4,5,6,7,8,9,10,11,12,13,14,15,16,17,18,19] (by kernel_rfl) ⟨((a+o:Nat):Int),(ze (by omega)).trans (by omega),((a+o:Nat):Int),(ze (by omega)).trans (by omega),a+o,rfl,by omega,?_⟩;refine⟨_,zp qd hx2,i,rfl,by omega,?_⟩;refine⟨_,zp qd hx1,i,rfl,by omega,?_⟩;refine zE k5 rfl qd hx1 e[a+o]! fun V1 q1 g1=>⟨a+o,rfl,by omega,?_⟩;exact zE k5 rfl q1 (by rw [Array.size_setIfInBounds];exact hx2) e[i]! fun V2 q2 g2=>nxI (by omega) ⟨(i+1,r,swp e i (a+o)),(cvE rfl rfl),fin _ (by omega) V2 q2 (zd (zt _ g) (zd g1 g2)),by dsimp only;omega⟩
 ·exact⟨rfl,⟨e,hP,rY⟩,gY⟩
end
end Go.Proofs.YtpalcnbhkigagaaGreatDoor
namespace Go.Proofs.YtpalcnbhkigagaaGreatDoor
open Go.Vc Go.RowKit Go.Sei
open Go.Sort (swp PermIn SortedIn permIn_refl permIn_trans)
section
variable {g cap L:Nat} {sp:List Value}
theorem zrl (hl:L<=60000):∀ (m a0 b0:Nat) (lim0:Int) (d0:Array UInt8) (w:Wd),b0-a0<=m->RB w g sp d0->d0.size=L->a0<=b0->b0<=L->Go.Sort.Below lt8 a0 b0 d0 ->
  Calls PG 102 #[.slice (some ⟨g,0,none⟩) L cap,i64 a0,i64 b0,.int .i64 lim0] w fun e w'=>e = .returned (.tuple #[])/\∃ d',PermIn a0 b0 d0 d'/\SortedIn lt8 a0 b0 d'/\RB w' g sp d'/\w.grownBy w' (some g):=by
 intro m
 induction m using Nat.strongRecOn with
 | _ m ih =>
 intro a0 b0 lim0 d0 w hm hr hL hab0 hb0 hB0;refine jf 134 [.slice (some ⟨g,0,none⟩) L cap,i64 a0,i64 b0,.int .i64 lim0] (.s .p (.s .p (.b (.l (.b (.c .p (.s .p (.s .p (.c .p (.s .p (.c .p (.c .p (.c .p .p))))))))))))) Tryz.func102 ?_;refine⟨Nat×Nat×Int×Bool×Bool×Array UInt8,fun t=>⟨[(0,.slice (some ⟨g,0,none⟩) L cap),(1,i64 (t.1:Nat)),(2,i64 (t.2.1:Nat)),(3,.int .i64 t.2.2.1),(8,.bool t.2.2.2.1),(9,.bool t.2.2.2.2.1)],[]⟩,
  fun t X=>(t.1<=t.2.1/\t.2.1<=L/\t.2.1-t.1<=m)/\t.2.2.2.2.2.size=L/\Go.Sort.Below lt8 t.1 t.2.1 t.2.2.2.2.2/\(∀ R,PermIn t.1 t.2.1 t.2.2.2.2.2 R->SortedIn lt8 t.1 t.2.1 R->PermIn a0 b0 d0 R/\SortedIn lt8 a0 b0 R)/\RB X g sp t.2.2.2.2.2/\w.grownBy X (some g),fun t=>t.2.1-t.1,(a0,b0,lim0,true,true,d0),
  (cvE rfl rfl),⟨⟨hab0,hb0,hm⟩,hL,hB0,fun R h1 h2=>⟨h1,h2⟩,hr,z6 _ _⟩,?_⟩
 rintro⟨a,b,lim,wb,wp,d⟩ X ⟨⟨hab,hb,hbm⟩,hz,hB,hC,rX,gX⟩;dsimp only at hab hb hbm hz hB hC rX gX;have fin:∀ Z R,PermIn a b d R->SortedIn lt8 a b R->RB Z g sp R->w.grownBy Z (some g)->∃ d',PermIn a0 b0 d0 d'/\SortedIn lt8 a0 b0 d'/\RB Z g sp d'/\w.grownBy Z (some g):=fun Z R h1 h2 q gz=>⟨R,(hC R h1 h2).1,(hC R h1 h2).2,q,gz⟩;refine⟨Unit,fun _=>⟨[(0,.slice (some ⟨g,0,none⟩) L cap),(1,i64 (a:Nat)),(2,i64 (b:Nat)),(3,.int .i64 lim),(8,.bool wb),(9,.bool wp),(10,i64 (b-a:Nat))],[]⟩,fun _ Y=>X=Y,?_,?_⟩
 ·exact⟨((b-a:Nat):Int),(ze (by first | omega | (dsimp only;omega))).trans (by first | omega | (dsimp only;omega)),(),(cvE rfl rfl),rfl⟩
 rintro _ _ rfl;refine biE (fun h12=>?_) fun h12=>?_
 ·have h12:((b-a:Nat):Int)<=12:=dT h12;refine cmo (zrx rX hz hab hb (by omega)) ?_;rintro e Y ⟨rfl,rY,gY⟩;obtain⟨p1,p2⟩:=Go.Sort.insertionSort_holds znI d a b hab (by omega);exact⟨rfl,fin Y _ p1 p2 rY (zd gX gY)⟩
 have h12:¬ ((b-a:Nat):Int)<=12:=dF h12;have hlen:12<b-a:=by omega
 refine biE (fun h0=>?_) fun h0=>?_
 ·refine cmo (zp1 rX hz (by omega) hb (by omega)) ?_;rintro e Y ⟨rfl,rY,gY⟩;obtain⟨p1,p2⟩:=Go.Sort.heapSort_holds znI d a b hab (by omega);exact⟨rfl,fin Y _ p1 p2 rY (zd gX gY)⟩
 clear h0;refine⟨Int×Array UInt8,fun t=>⟨[(0,.slice (some ⟨g,0,none⟩) L cap),(1,i64 (a:Nat)),(2,i64 (b:Nat)),(3,.int .i64 t.1),(8,.bool wb),(9,.bool wp),(10,i64 (b-a:Nat))],[]⟩,fun t Y=>PermIn a b d t.2/\RB Y g sp t.2/\w.grownBy Y (some g),?_,?_⟩
 ·refine biE (fun h=>?_) fun h=>?_
  ·refine cmo (zqD rX hz (by omega) hb hl) ?_;rintro e Y ⟨rfl,⟨d1,p1,rY⟩,gY⟩;exact⟨_,rfl,(IntKind.i64.wrap (lim-1),d1),(cvE rfl rfl),p1,rY,zd gX gY⟩
  ·exact⟨(lim,d),(cvE rfl rfl),permIn_refl _ _ _,rX,gX⟩
 rintro⟨lim1,d1⟩ Y ⟨p1,rY,gY⟩;dsimp only at p1 rY gY;have hz1:d1.size=L:=by rw [p1.1];exact hz
 refine cmo (zpJ rY hz1 (by omega) hb (by omega)) ?_;rintro e Z ⟨⟨pv,hint,rfl,hp1,hp2⟩,rZ,gZ⟩;have gwZ:=zd gY gZ;refine⟨Nat×Int×Array UInt8,fun t=>⟨[(0,.slice (some ⟨g,0,none⟩) L cap),(1,i64 (a:Nat)),(2,i64 (b:Nat)),(3,.int .i64 lim1),(8,.bool wb),(9,.bool wp),(10,i64 (b-a:Nat)),(11,i64 (t.1:Nat)),(12,.int .i64 t.2.1)],[]⟩,fun t V=>(a<=t.1/\t.1<b)/\PermIn a b d t.2.2/\RB V g sp t.2.2/\w.grownBy V (some g),?_,?_⟩
 ·refine biE (fun h=>?_) fun h=>?_
  ·refine cmo (zrh rZ hz1 (by omega) hb (by omega)) ?_;rintro e V ⟨rfl,rV,gV⟩;exact⟨((b-1:Nat):Int),(ze (by omega)).trans (by omega),((pv-a:Nat):Int),(ze (by omega)).trans (by omega),((b-1-(pv-a):Nat):Int),(ze (by omega)).trans (by omega),(b-1-(pv-a),1,Go.Sort.reverseRange d1 a b),(cvE rfl rfl),⟨by dsimp only;omega,by dsimp only;omega⟩,permIn_trans _ _ _ a b p1 (Go.Sort.reverseRange_holds d1 a b hab (by omega)),rV,zd gwZ gV⟩
  ·exact⟨(pv,hint,d1),(cvE rfl rfl),⟨hp1,hp2⟩,p1,rZ,gwZ⟩
 clear hp1 hp2 rZ gZ rY gY p1 hz1 gwZ;rintro⟨pv,hint,d2⟩ V ⟨⟨hp1,hp2⟩,p2,rV,gV⟩;dsimp only at hp1 hp2 p2 rV gV;have hz2:d2.size=L:=by rw [p2.1];exact hz
 have hB2:Go.Sort.Below lt8 a b d2:=hB.perm (by omega) p2;refine⟨Array UInt8,fun t=>⟨[(0,.slice (some ⟨g,0,none⟩) L cap),(1,i64 (a:Nat)),(2,i64 (b:Nat)),(3,.int .i64 lim1),(8,.bool wb),(9,.bool wp),(10,i64 (b-a:Nat)),(11,i64 (pv:Nat))],[]⟩,fun t U=>PermIn a b d t/\RB U g sp t/\w.grownBy U (some g),?_,?_⟩
 ·have skipped:∀ (E:Env),Cov E ⟨[(0,.slice (some ⟨g,0,none⟩) L cap),(1,i64 (a:Nat)),(2,i64 (b:Nat)),(3,.int .i64 lim1),(8,.bool wb),(9,.bool wp),(10,i64 (b-a:Nat)),(11,i64 (pv:Nat))],[]⟩->∃ s:Array UInt8,Cov E ⟨[(0,.slice (some ⟨g,0,none⟩) L cap),(1,i64 (a:Nat)),(2,i64 (b:Nat)),(3,.int .i64 lim1),(8,.bool wb),(9,.bool wp),(10,i64 (b-a:Nat)),(11,i64 (pv:Nat))],[]⟩/\PermIn a b d s/\RB V g sp s/\w.grownBy V (some g):=fun E hE=>⟨d2,hE,p2,rV,gV⟩
  cases wb with
  | false =>
   exact Gg (fun h=>by cases h) (fun _=>Gg (fun h=>by cases h) (fun _=>Gg (fun h=>by cases h) (fun _=>skipped _ (cvE rfl rfl))))
  | true =>
   refine Gg (fun _=>?_) (fun h=>by cases h)
   cases wp with
   | false =>
    exact Gg (fun h=>by cases h) (fun _=>Gg (fun h=>by cases h) (fun _=>skipped _ (cvE rfl rfl)))
   | true =>
    refine Gg (fun _=>biE (fun h=>?_) fun h=>?_) (fun h=>by cases h)
    ·refine cmo (zmO rV hz2 (by omega) hb (by omega)) ?_;rintro e U ⟨d3,ok,hpi,rfl,rU,gU⟩;have hpl:=Go.Sort.partialInsertionSort_holds znI d2 a b (by omega) (by omega) hB2;rw [hpi] at hpl;have p3:=permIn_trans _ _ _ a b p2 hpl.1;refine biE (fun hok=>?_) fun hok=>?_
     ·have hok:ok=true:=hok;exact⟨rfl,fin U d3 p3 (hpl.2 hok) rU (zd gV gU)⟩
     ·exact⟨d3,(cvE rfl rfl),p3,rU,zd gV gU⟩
    ·exact skipped _ (cvE rfl rfl)
 clear p2 rV gV hz2 hB2;rintro d3 U ⟨p3,rU,gU⟩;have hz3:d3.size=L:=by rw [p3.1];exact hz
 have hB3:Go.Sort.Below lt8 a b d3:=hB.perm (by omega) p3;have rUd:RB U.drew g sp d3:=rU;have gUd:=zd gU (zt U g);have hxp:pv<d3.size:=by omega
 refine⟨Unit,fun _=>⟨[(0,.slice (some ⟨g,0,none⟩) L cap),(1,i64 (a:Nat)),(2,i64 (b:Nat)),(3,.int .i64 lim1),(8,.bool wb),(9,.bool wp),(10,i64 (b-a:Nat)),(11,i64 (pv:Nat))],[]⟩,fun _ T=>RB T g sp d3/\w.grownBy T (some g),?_,?_⟩
 ·refine DrawE.ord [] [0,1,2,3,4,5,6,7,8,9,10,11,12,13,14] (by kernel_rfl) (biE (fun h1=>?_) fun h1=>?_)
  ·have h1:(0:Int)<(a:Int):=dT h1;have hxa:a-1<d3.size:=by omega
   refine⟨((a-1:Nat):Int),(ze (by omega)).trans (by omega),a-1,rfl,by omega,?_⟩;refine⟨_,zp rUd hxa,pv,rfl,by omega,?_⟩;refine⟨_,zp rUd hxp,cmo jy ?_⟩;rintro e _ ⟨rfl,rfl⟩;refine⟨Gb _ _,biE (fun h2=>?_) fun h2=>?_⟩
   ·have h2:(!lt8 d3[a-1]! d3[pv]!)=true:=h2;have h2:lt8 d3[a-1]! d3[pv]! = false:=(by simpa using h2);refine cmo (zn7 rUd hz3 hp1 hp2 hb (by omega)) ?_;rintro e T ⟨mid,d4,hpe,rfl,rT,gT⟩;obtain⟨q1,q2,q3,q4,q5⟩:=Go.Sort.round_eq znI (Go.Sort.partitionEqual_holds lt8) (by omega) hp1 hp2 (by omega) hB3 h2 hpe;refine⟨(mid,b,lim1,wb,wp,d4),(cvE rfl rfl),⟨⟨q2,hb,by dsimp only;omega⟩,by dsimp only;omega,q4,fun R r1 r2=>?_,rT,zd gUd gT⟩,by dsimp only;omega⟩;obtain⟨s1,s2⟩:=q5 R r1 r2;exact hC R (permIn_trans _ _ _ a b p3 s1) s2
   ·exact⟨(),(cvE rfl rfl),rUd,gUd⟩
  ·exact Gg (fun h=>by cases h) (fun _=>⟨(),(cvE rfl rfl),rUd,gUd⟩)
 rintro _ T ⟨rT,gT⟩;refine cmo (zrp rT hz3 hp1 hp2 hb (by omega)) ?_;rintro e S ⟨mid,ap,d4,hpt,rfl,rS,gS⟩;have gwS:=zd gT gS;obtain⟨q1,q2,q3,q4,q5,q6,q7⟩:=Go.Sort.round_part znI (Go.Sort.partition_holds lt8) hp1 hp2 (by omega) hB3 hpt;have hz4:d4.size=L:=by omega
 refine⟨((mid-a:Nat):Int),(ze (by omega)).trans (by omega),((b-mid:Nat):Int),(ze (by omega)).trans (by omega),by decide,(((b-a)/8:Nat):Int),zie (b-a) 8 (by omega),biE (fun hc=>?_) fun hc=>?_⟩
 ·refine cmo (ih (mid-a) (by omega) a mid lim1 d4 S (UW _) rS hz4 q1 (by omega) q4) ?_;rintro e' Q ⟨rfl,d5,r1,r2,rQ,gQ⟩;obtain⟨hB5,hfin⟩:=q6 d5 r1 r2;refine nxI (by omega) ⟨(mid+1,b,lim1,decide ((((b-a)/8:Nat):Int)<=((mid-a:Nat):Int)),ap,d5),(cvE rfl rfl),⟨⟨by dsimp only;omega,hb,by dsimp only;omega⟩,by show d5.size=L;rw [r1.1];exact hz4,hB5,fun R s1 s2=>?_,rQ,zd gwS gQ⟩,by dsimp only;omega⟩;obtain⟨t1,t2⟩:=hfin R s1 s2;exact hC R (permIn_trans _ _ _ a b p3 t1) t2
 ·refine nxI (by omega) (cmo (ih (b-(mid+1)) (by omega) (mid+1) b lim1 d4 S (UW _) rS hz4 (by omega) hb q5) ?_);rintro e' Q ⟨rfl,d5,r1,r2,rQ,gQ⟩;obtain⟨hB5,hfin⟩:=q7 d5 r1 r2;refine⟨(a,mid,lim1,decide ((((b-a)/8:Nat):Int)<=((b-mid:Nat):Int)),ap,d5),(cvE rfl rfl),⟨⟨q1,by dsimp only;omega,by dsimp only;omega⟩,by show d5.size=L;rw [r1.1];exact hz4,hB5,fun R s1 s2=>?_,rQ,zd gwS gQ⟩,by dsimp only;omega⟩;obtain⟨t1,t2⟩:=hfin R s1 s2;exact hC R (permIn_trans _ _ _ a b p3 t1) t2
end
end Go.Proofs.YtpalcnbhkigagaaGreatDoor
namespace Go.Proofs.YtpalcnbhkigagaaGreatDoor
open Go.Vc Go.RowKit Go.Sei
section
variable {g cap:Nat} {l:List UInt8} {w:Wd}
theorem zqJ {sp:List Value} (hr:RowS zJ 5 w g sp l) (hl:l.length<=60000) :
  Calls PG 73 #[.slice (some ⟨g,0,none⟩) l.length cap] w fun e w'=>e = .returned (.tuple #[])/\∃ l',l'.Perm l/\l'.Pairwise (fun x y=>x.toNat<=y.toNat)/\RowS zJ 5 w' g sp l'/\w.grownBy w' (some g):=by
 refine zH 11 [.slice (some ⟨g,0,none⟩) l.length cap] Tryz.func73 ?_;refine⟨(l.length:Nat),zas (by omega),cmo (zon (n:=l.length) (by omega)) ?_⟩;rintro e _ ⟨⟨m,rfl,h1,h2⟩,rfl⟩;have hs:l.toArray.size=l.length:=rfl;refine cmo (zrl (sp:=sp) (L:=l.length) (cap:=cap) hl l.length 0 l.length m l.toArray w (UW _) hr hs (UZ _) (UW _) (.inl rfl)) ?_;rintro e X ⟨rfl,d',hp,hso,rX,gX⟩;refine⟨rfl,d'.toList,?_,?_,rX,gX⟩
 ·have:=hp.2.2;rw [<- hs] at this;have h3:(d'.extract 0 l.toArray.size)=d':=by rw [<- hp.1];simp
  rw [h3] at this;simpa using this
 ·refine List.pairwise_iff_getElem.2 fun i j hi hj hij=>?_;have hi':i<d'.size:=by simpa using hi
  have hj':j<d'.size:=by simpa using hj
  have hz:d'.size=l.length:=hp.1;have h4:=hso i j (UZ _) hij (by omega);rw [getElem!_pos d' i hi',getElem!_pos d' j hj'] at h4;have h4:=dF h4;rw [Array.getElem_toList,Array.getElem_toList];omega
end
theorem zoh (v:UInt8):v∈zP:=by
 unfold zP;exact UJ.2 ⟨v.toNat,Uo.2 v.toNat_lt,UInt8.ofNat_toNat⟩
theorem zeY {l:List UInt8} {v:UInt8}:v∈qO l↔v∈l:=by
 unfold qO;rw [QT];constructor
 ·rintro⟨_,h⟩;obtain⟨x,hx,e⟩:=Ql.1 h;rw [<- dT e];exact hx
 ·exact fun h=>⟨zoh v,Ql.2 ⟨v,h,Us rfl⟩⟩
theorem zqH:zP.Pairwise (fun x y=>x.toNat<y.toNat):=by
 unfold zP;rw [List.pairwise_map];refine List.Pairwise.imp_of_mem ?_ (List.pairwise_lt_range (n:=256));intro a b ha hb h;rw [KI,KI,QD (Uo.1 ha),QD (Uo.1 hb)];exact h
theorem zgK (l:List UInt8):(qO l).Pairwise (fun x y=>x.toNat<y.toNat):=List.Pairwise.filter _ zqH
theorem ze0:∀ (l:List UInt8) (p:UInt8),(∀ x∈l,p.toNat<=x.toNat)->l.Pairwise (fun x y=>x.toNat<=y.toNat)->(zaJ p l).Pairwise (fun x y=>x.toNat<y.toNat)/\(∀ x,x∈zaJ p l↔x∈l/\x≠p)/\∀ x∈zaJ p l,p.toNat<x.toNat
 | [],p,_,_=>⟨.nil,fun x=>by simp [zaJ],fun x h=>by cases h⟩
 | y::r,p,hp,hs=>by
  rw [List.pairwise_cons] at hs;by_cases h:y=p
  ·subst h;obtain⟨a,b,c⟩:=ze0 r y hs.1 hs.2;have e:zaJ y (y::r)=zaJ y r:=by show (if y=y then zaJ y r else y::zaJ y r)=_;rw [Gp rfl]
   rw [e];refine⟨a,fun x=>(b x).trans ⟨fun h=>⟨JY _ h.1,h.2⟩,fun h=>⟨(UC.1 h.1).resolve_left h.2,h.2⟩⟩,c⟩
  ·obtain⟨a,b,c⟩:=ze0 r y hs.1 hs.2;have e:zaJ p (y::r)=y::zaJ y r:=by show (if y=p then zaJ p r else y::zaJ y r)=_;rw [Gn h]
   rw [e];have hpy:p.toNat<y.toNat:=by
    have h1:=hp y (KA ..);have h2:y.toNat≠p.toNat:=fun e=>h (Ug.1 e);omega
   refine⟨List.pairwise_cons.2 ⟨c,a⟩,fun x=>?_,fun x hx=>?_⟩
   ·rw [UC,b x,UC];constructor
    ·rintro (rfl | ⟨h1,h2⟩)
     ·exact⟨.inl rfl,h⟩
     ·refine⟨.inr h1,fun e=>?_⟩;subst e;have:=hs.1 x h1;omega
    ·rintro⟨rfl | h1,h2⟩
     ·exact .inl rfl
     ·by_cases e:x=y
      ·exact .inl e
      ·exact .inr ⟨h1,e⟩
   ·rcases UC.1 hx with rfl | hx
    ·exact hpy
    ·have:=c x hx;omega
theorem zoJ {l:List UInt8} (hs:l.Pairwise (fun x y=>x.toNat<=y.toNat)):(ded l).Pairwise (fun x y=>x.toNat<y.toNat)/\∀ x,x∈ded l↔x∈l:=by
 cases l with
 | nil=>exact⟨.nil,fun x=>Iff.rfl⟩
 | cons y r =>
  rw [List.pairwise_cons] at hs;obtain⟨a,b,c⟩:=ze0 r y hs.1 hs.2;refine⟨List.pairwise_cons.2 ⟨c,a⟩,fun x=>?_⟩;show x∈y::zaJ y r↔_;rw [UC,b x,UC];constructor
  ·rintro (h | h)
   ·exact .inl h
   ·exact .inr h.1
  ·rintro (h | h)
   ·exact .inl h
   ·by_cases e:x=y
    ·exact .inl e
    ·exact .inr ⟨h,e⟩
theorem zlm:∀ {a b:List UInt8},a.Pairwise (fun x y=>x.toNat<y.toNat)->b.Pairwise (fun x y=>x.toNat<y.toNat)->(∀ x,x∈a↔x∈b)->a=b
 | [],[],_,_,_=>rfl
 | [],y::b,_,_,h=>Gq ((h y).2 (KA ..)) (by simp)
 | x::a,[],_,_,h=>Gq ((h x).1 (KA ..)) (by simp)
 | x::a,y::b,ha,hb,h=>by
  rw [List.pairwise_cons] at ha hb;have e:x=y:=by
   rcases UC.1 ((h x).1 (KA ..)) with e | h1
   ·exact e
   ·rcases UC.1 ((h y).2 (KA ..)) with e | h2
    ·exact e.symm
    ·have:=hb.1 x h1;have:=ha.1 y h2;omega
  subst e;rw [zlm ha.2 hb.2 fun z=>?_];have hz:=h z;rw [UC,UC] at hz;constructor
  ·intro hza;rcases hz.1 (.inr hza) with e | h2
   ·subst e;have:=ha.1 z hza;omega
   ·exact h2
  ·intro hzb;rcases hz.2 (.inr hzb) with e | h2
   ·subst e;have:=hb.1 z hzb;omega
   ·exact h2
theorem ziC {l:List UInt8} (h:l.Pairwise (fun x y=>x.toNat<y.toNat)):qO l=l:=zlm (zgK l) h fun _=>zeY
theorem zdj (l:List UInt8):(qO l).length<=256:=by
 refine UM (JM ..) ?_;unfold zP;rw [QN,KW];exact UW _
theorem zcX {p:OA} {cap:Nat} {l:List UInt8} {w:Wd} (hl:SlR zJ w p l) (h1:1<=l.length) (hm:l.length<=60000) :
  Calls PG 41 #[.slice p l.length cap] w fun e w'=>(∃ q c,e = .returned (.slice q (qO l).length c)/\OwnS zJ 5 w.heap.size w' q c (qO l))/\Bw w w':=by
 refine zH 9 [.slice p l.length cap] Tryz.func41 ?_;refine cmo (zkn hl (by omega) (fun e=>by subst e;have:=hl.none;subst this;simp at h1)) ?_;rintro e X ⟨⟨q,c,rfl,ho⟩,hbX⟩;rcases ho.inv with ⟨_,_,h0⟩ | ⟨g,cur,rfl,hB,hcur,hlc,hcm,hcs,hct⟩
 ·rw [h0] at h1;simp at h1
 have hcs:cur.size=c:=by rw [hcs];exact UX _
 obtain⟨sp,hsp⟩:=nm (cur.toList.drop l.length);have hct:cur.toList.take l.length=l.flatMap zJ.enc:=by rw [<- hct];congr 1;exact (UX _).symm
 have hR:RowS zJ 5 X g sp l:=by
  unfold RowS;rw [hcur,<- hct,hsp,JQ]
 have hspl:l.length+sp.length=c:=by
  have h1:cur.toList.length=c:=by rw [Array.length_toList];exact hcs
  rw [hsp,Qu,h1];omega
 refine cmo (zqJ hR hm) ?_;rintro e Y ⟨rfl,l',hp,hso,rY,gY⟩;have hlen:l'.length=l.length:=hp.length_eq;have oY:OwnS zJ 5 w.heap.size Y (some ⟨g,0,none⟩) c l':=by
  unfold OwnS World.ownsRow;refine⟨by rw [qp],.inr ⟨g,c,_,rfl,hB,rY,by omega,hcm,?_,?_⟩⟩
  ·show (l'.flatMap zJ.enc++sp).length=c*1;rw [lap,qp];show l'.length*1+_=_;omega
  ·exact QX (qp l')
 have c3:=zlp oY (by omega);rw [hlen] at c3;refine cmo c3 ?_;rintro e Z ⟨rfl,oZ,gZ⟩;have hwX:=hbX.size;obtain⟨d1,d2⟩:=zoJ hso;have hd:ded l'=qO l:=zlm d1 (zgK l) fun x=>(d2 x).trans ((hp.mem_iff).trans zeY.symm);rw [hd] at oZ ⊢;exact⟨⟨_,_,rfl,oZ⟩,(hbX.trans (zi gY hwX hB)).trans (zi gZ (UM hwX gY.size) hB)⟩
structure RowN {α : Type} (E : Enc α) (n0 : Nat) (F : Nat → Prop) (X : Wd) (q : OA) (l : List α) : Prop where
  row : SlR E X q l
  out : l ≠ [] → ∀ a, q = some a → a.block < n0 ∧ ¬ F a.block
theorem RowN.keep {α : Type} {E : Enc α} {n0 : Nat} {F F' G : Nat → Prop} {X Y : Wd} {q : OA} {l : List α} (h : RowN E n0 F X q l) (hn : n0 ≤ X.heap.size) (k : KeepsG G F' X Y) (hG : ∀ k, k < n0 → G k → F k) : RowN E n0 F' Y q l := by
  by_cases hne : l = []
  · exact ⟨.inl hne, fun h => (h hne).elim⟩
  · have r : RowF E n0 F X q l := ⟨h.row, h.out hne⟩
    have r2 := r.keep hn k hG
    exact ⟨r2.row, fun _ => r2.out⟩
section
variable {yl n0 cap cd : Nat} {J Jx : List RunD → (Nat → Prop) → Wd → Prop} {xs : List RunD} {l : List InsD} {dom : List UInt8} {q p : OA}
theorem zmv (hJ : JG n0 (fun _ => False) J) (hn0 : ∀ pre F X, J pre F X → n0 ≤ X.heap.size) (hy : ∀ pre x vs F W1, J pre F W1 → StR (pre ++ [x]) vs W1 → (pre ++ [x]) <+: xs → YieldR PG yl vs.toArray W1 fun v W2 =>
      (v = .bool true ∧ ∃ F', J (pre ++ [x]) F' W2 ∧ KeepsG F F' W1 W2) ∨ (v = .bool false ∧ ∃ F', Jx (pre ++ [x]) F' W2)) (ht : ThG l) (hd : dom.length ≤ 1000) :
    ∀ (n : Nat) (S : RunD) (b : Nat) (pre : List RunD) (F : Nat → Prop) (X : Wd), l.length ≤ n + S.pc → RunOk l S → jq X b S → n0 ≤ b → ¬ F b → J pre F X → RowN zD n0 F X q l → RowF zJ n0 F X p dom → (pre ++ zY l dom n S) <+: xs →
      Calls PG 105 #[AtR b, .slice q l.length cap, .slice p dom.length cd, .func (.yield yl) #[] #[]] X fun e Y =>
        (e = .returned (.bool true) ∧ ∃ F', J (pre ++ zY l dom n S) F' Y ∧ KeepsG (fun k => F k ∨ k = b) F' X Y) ∨ (e = .returned (.bool false) ∧ ∃ pre' F', pre' <+: xs ∧ Jx pre' F' Y) := by
  intro n
  induction n with
  | zero =>
    intro S b pre F X hn hS fX hb hFb hj hq hdm hpre
    refine jn (S := sg 41) (zbe _) (args := [AtR b, .slice q l.length cap, .slice p dom.length cd, .func (.yield yl) #[] #[]]) Tryz.func105 rfl rfl (JS rfl) rfl ?_
    have hpc : S.pc = l.length := by have := hS.p; omega
    have hg : l[S.pc]? = none := JK (by omega)
    have e1 : goR l l.length S = S := zos hg _
    refine Gc (zf3 fX hq.row (fun hne a ha => by have := (hq.out hne a ha).1; omega) ht hS) ?_
    rintro e Y ⟨rfl, fY, gY, _⟩
    rw [e1] at fY ⊢
    rw [hg]
    refine brT ?_
    have hjY := hJ.step _ _ _ _ hj (StepG.grown gY (.inl hb) hFb)
    have hs : zY l dom 0 S = [S] := by show [goR l l.length S] = _; rw [e1]
    rw [hs] at hpre ⊢
    refine YieldR.mono (hy pre S [AtR b] F Y hjY ⟨S, b, by simp, rfl, fY⟩ hpre) ?_
    rintro v Z (⟨rfl, F', hJZ, hKZ⟩ | ⟨rfl, F', hJZ⟩)
    · exact .inl ⟨rfl, F', hJZ, (KeepsG.grown (F := fun k => F k ∨ k = b) gY (.inr rfl)).trans (hKZ.weak fun k h => .inl h)⟩
    · exact .inr ⟨rfl, _, F', hpre, hJZ⟩
  | succ n ih =>
    intro S b pre F X hn hS fX hb hFb hj hq hdm hpre
    refine jn (S := sg 41) (zbe _) (args := [AtR b, .slice q l.length cap, .slice p dom.length cd, .func (.yield yl) #[] #[]]) Tryz.func105 rfl rfl (JS rfl) rfl ?_
    obtain ⟨T, hT⟩ : ∃ T, T = goR l l.length S := ⟨_, rfl⟩
    refine Gc (zf3 fX hq.row (fun hne a ha => by have := (hq.out hne a ha).1; omega) ht hS) ?_
    rintro e Y ⟨rfl, fY, gY, tO, tpp⟩
    rw [← hT] at fY tO tpp ⊢
    have hjY := hJ.step _ _ _ _ hj (StepG.grown gY (.inl hb) hFb)
    have hXn := hn0 _ _ _ hj
    have kY : KeepsG (fun k => F k ∨ k = b) F X Y := ⟨gY.os, gY.tape, gY.output, gY.size, fun k hk hf => gY.block k hk (fun e => hf (.inr (by cases e; rfl))), fun k h => .inl (.inl h)⟩
    have hqY := hq.keep hXn kY (fun k hk h => h.resolve_right (by omega))
    have hdY := hdm.keep hXn kY (fun k hk h => h.resolve_right (by omega))
    cases hg : l[T.pc]? with
    | none =>
      refine brT ?_
      have hs : zY l dom (n + 1) S = [T] := by
        show (match l[(goR l l.length S).pc]? with | none => [goR l l.length S] | some x => _) = _
        rw [← hT, hg]
      rw [hs] at hpre ⊢
      refine YieldR.mono (hy pre T [AtR b] F Y hjY ⟨T, b, by simp, rfl, fY⟩ hpre) ?_
      rintro v Z (⟨rfl, F', hJZ, hKZ⟩ | ⟨rfl, F', hJZ⟩)
      · exact .inl ⟨rfl, F', hJZ, kY.trans hKZ⟩
      · exact .inr ⟨rfl, _, F', hpre, hJZ⟩
    | some x =>
      have hi : T.pc < l.length := (Js.1 hg).1
      have hxe : l[T.pc] = x := by rw [Jv hi] at hg; exact Uf hg
      have hxi := (ht.2 _ _ hg).1
      refine brF ?_
      have hs : zY l dom (n + 1) S = dom.flatMap fun v => zY l dom n (qi T x v) := by
        show (match l[(goR l l.length S).pc]? with | none => [goR l l.length S] | some x => _) = _
        rw [← hT, hg]
      rw [hs] at hpre ⊢
      refine ⟨Nat × (Nat → Prop), fun s => ⟨[(0, AtR b), (1, .slice q l.length cap), (2, .slice p dom.length cd), (3, .func (.yield yl) #[] #[]), (19, .slice p dom.length cd), (20, i64 dom.length), (21, i64 (s.1 : Nat))], []⟩,
        fun s Z => s.1 ≤ dom.length ∧ J (pre ++ (dom.take s.1).flatMap fun v => zY l dom n (qi T x v)) s.2 Z ∧ jq Z b T ∧ ¬ s.2 b ∧ RowN zD n0 s.2 Z q l ∧ RowF zJ n0 s.2 Z p dom ∧ KeepsG (fun k => F k ∨ k = b) s.2 X Z, fun s => dom.length - s.1, (0, F),
        ⟨.cons rfl (.cons rfl (.cons rfl (.cons rfl (.cons rfl (.cons rfl (.cons rfl .nil)))))), rfl⟩, ⟨UZ _, by rw [Up]; show J (pre ++ []) F Y; rw [QK]; exact hjY, fY, hFb, hqY, hdY, kY⟩, ?_⟩
      clear fY gY hjY hqY hdY kY
      rintro ⟨k, G⟩ Z ⟨hk, hjZ, fZ, hGb, hqZ, hdZ, kZ⟩
      dsimp only at hk hjZ hGb hqZ hdZ kZ ⊢
      have hZn := hn0 _ _ _ hjZ
      refine Gg (fun hc => ?_) (fun hc => ?_)
      · have hc : (k : Int) < (dom.length : Int) := Qd hc
        have hkd : k < dom.length := by omega
        obtain ⟨bp, op, hpe, hlp, hatp⟩ := hdZ.row.at hkd
        have hqr := hqZ
        obtain ⟨bq, oq, hqe, hlq, hatq⟩ := hqZ.row.at hi
        have ep : some (Value.slice p dom.length cd) = some (Value.slice (some ⟨bp, op, none⟩) dom.length cd) := by rw [hpe]
        subst hpe
        refine ⟨k, rfl, hkd, ?_⟩
        refine ⟨u8 dom[k], by have := zc (hatp k hkd) (i := 0) (v := u8 dom[k]) rfl; exact this, ?_⟩
        refine ⟨qE T, js _, za fZ, hlt fZ, ?_⟩
        refine zn (X := Z) (v := .agg (qE T).toArray) (jG.get 112 _ rfl) (js _) zmo (znS _) fun V hbV fV sV => ?_
        subst hqe
        have fV : jq V Z.heap.size T := fV
        refine ⟨_, zc (za fV) (i := 0) rfl, ?_⟩
        refine ⟨T.pc, rfl, hi, ?_⟩
        refine ⟨zD.enc x, rfl, by rw [← hxe]; exact zm hbV (hatq T.pc hi), KG hlq hbV.size, ?_⟩
        refine Gc (zgD (v := dom[k]) fV tO.s (by have := tO.m; have := ht.1; omega) (by have := ht.1; omega) hxi) ?_
        rintro e U ⟨rfl, fU, gU⟩
        obtain ⟨x1, x2⟩ := zen (v := dom[k]) ht tO hg
        have hGn : ¬ G Z.heap.size := fun h => by have := (hJ.lt _ _ _ _ hjZ h).1; omega
        have hjU := hJ.step _ _ _ _ (hJ.step _ _ _ _ hjZ (StepG.below hbV)) (StepG.grown gU (.inl hZn) hGn)
        have hbU : Below Z.heap.size Z U := hbV.trans (zi gU hbV.size (UW _))
        have kU : KeepsG G G Z U := KeepsG.below hbU fun k h => .inl h
        have hqU := hqr.keep hZn kU (fun k _ h => h)
        have hdU := hdZ.keep hZn kU (fun k _ h => h)
        have hdk : dom.flatMap (fun v => zY l dom n (qi T x v)) = (dom.take k).flatMap (fun v => zY l dom n (qi T x v)) ++ (zY l dom n (qi T x dom[k]) ++ (dom.drop (k + 1)).flatMap fun v => zY l dom n (qi T x v)) := by
          have e : dom = dom.take k ++ dom[k] :: dom.drop (k + 1) := by rw [JF, JQ]
          have e2 : (dom.take k ++ dom[k] :: dom.drop (k + 1)).flatMap (fun v => zY l dom n (qi T x v)) = (dom.take k).flatMap (fun v => zY l dom n (qi T x v)) ++ (zY l dom n (qi T x dom[k]) ++ (dom.drop (k + 1)).flatMap fun v => zY l dom n (qi T x v)) := by
            rw [Kh, KT]
          rw [← e] at e2
          exact e2
        have hpk : ((pre ++ (dom.take k).flatMap fun v => zY l dom n (qi T x v)) ++ zY l dom n (qi T x dom[k])) <+: xs := by
          refine List.IsPrefix.trans ?_ hpre
          rw [hdk]
          exact ⟨(dom.drop (k + 1)).flatMap fun v => zY l dom n (qi T x v), by simp only [KQ]⟩
        have htk : (dom.take (k + 1)).flatMap (fun v => zY l dom n (qi T x v)) = (dom.take k).flatMap (fun v => zY l dom n (qi T x v)) ++ zY l dom n (qi T x dom[k]) := by
          rw [Jd hkd, Kh, KT, Qq, QK]
        refine Gc (ih (qi T x dom[k]) Z.heap.size (pre ++ (dom.take k).flatMap fun v => zY l dom n (qi T x v)) G U (by omega) x1 fU hZn hGn hjU hqU hdU hpk) ?_
        rintro e V' (⟨rfl, F', hjV, kV⟩ | ⟨rfl, pre', F', hp', hjx⟩)
        · refine brF ?_
          have kW : KeepsG G F' Z V' := ⟨kV.os.trans kU.os, kV.tape.trans kU.tape, kV.output.trans kU.output, UM kU.size kV.size, fun i hi hf => (kV.same i (KG hi kU.size) (fun h => by
            rcases h with h | h
            · exact hf h
            · omega)).trans (kU.same i hi hf), fun i h => by
            have := kU.size
            rcases kV.fp i h with (h2 | h2) | h2
            · exact .inl h2
            · exact .inr (by omega)
            · exact .inr (by omega)⟩
          have hbZ := hlt fZ
          refine ⟨((k + 1 : Nat) : Int), (ze (by omega)).trans (by omega), ?_⟩
          refine ⟨(k + 1, F'), ⟨.cons rfl (.cons rfl (.cons rfl (.cons rfl (.cons rfl (.cons rfl (.cons rfl .nil)))))), rfl⟩, ⟨hkd, ?_, (kW.same b hbZ hGb).trans fZ, fun h => ?_, hqr.keep hZn kW (fun _ _ h => h), hdZ.keep hZn kW (fun _ _ h => h), kZ.trans kW⟩, by show dom.length - (k + 1) < dom.length - k; omega⟩
          · show J (pre ++ (dom.take (k + 1)).flatMap fun v => zY l dom n (qi T x v)) F' V'
            rw [htk, ← KQ]
            exact hjV
          · rcases kW.fp b h with h2 | h2
            · exact hGb h2
            · omega
        · refine brT ?_
          exact .inr ⟨rfl, pre', F', hp', hjx⟩
      · have hc : ¬ (k : Int) < (dom.length : Int) := KJ hc
        obtain rfl : k = dom.length := by omega
        rw [Qx] at hjZ
        exact .inl ⟨rfl, G, hjZ, kZ⟩
theorem ziA {bi bd : Nat} {W0 : Wd} (hl : SlR zD W0 q l) (hp : SlR zJ W0 p dom) (fi : W0.heap[bi]? = some (.cells #[.slice q l.length cap] 42 (0, 0))) (fd : W0.heap[bd]? = some (.cells #[.slice p dom.length cd] 23 (0, 0))) (hql : l ≠ [] → ∀ a, q = some a → a.block < W0.heap.size) (hpl : ∀ a, p = some a → a.block < W0.heap.size) (ht : ThG l) (hd : dom.length ≤ 1000) :
    zhT PG 104 [AtR bi, AtR bd] (qb l dom) W0 (fun k => (k = bi ∨ k = bd) ∨ (l ≠ [] ∧ ∃ a, q = some a ∧ k = a.block) ∨ ∃ a, p = some a ∧ k = a.block) (fun _ => False) StR := by
  intro yl F0 J Jx W hsz hrd hrf hJ hJx hy h0
  refine jn (S := sg 9) (zbe _) (args := [.func (.yield yl) #[] #[], AtR bi, AtR bd]) Tryz.func104 rfl rfl (JS rfl) rfl ?_
  obtain ⟨X, hX⟩ : ∃ X, X = W.alloc (.cells (qE zh7).toArray 112) := ⟨_, rfl⟩
  have hbX : Below W.heap.size W X := by rw [hX]; exact (Gb _ W).alloc (UW _) _
  have fX : jq X W.heap.size zh7 := by rw [hX]; exact zy W _
  have ez : zlr = qE zh7 := by kernel_rfl
  have hX' : W.alloc (.cells (zlr).toArray 112) = X := by rw [hX, ez]
  have fiW := (hrd bi (.inl (.inl (.inl rfl)))).trans fi
  have fdW := (hrd bd (.inl (.inl (.inr rfl)))).trans fd
  have hjX := hJ.step _ _ _ _ h0 (StepG.below hbX)
  have hF : ¬ F0 W.heap.size := fun h => by have := (hJ.lt _ _ _ _ h0 h).1; omega
  have hlX : RowN zD W.heap.size F0 X q l := by
    by_cases hne : l = []
    · exact ⟨.inl hne, fun h => (h hne).elim⟩
    · exact ⟨qV hl fun a ha => (hbX.block _ (by have := hql hne a ha; omega)).trans (hrd _ (.inl (.inr (.inl ⟨hne, a, ha, rfl⟩)))), fun _ a ha => ⟨by have := hql hne a ha; omega, hrf _ (.inr (.inl ⟨hne, a, ha, rfl⟩))⟩⟩
  have hpX : RowF zJ W.heap.size F0 X p dom := ⟨qV hp fun a ha => (hbX.block _ (by have := hpl a ha; omega)).trans (hrd _ (.inl (.inr (.inr ⟨a, ha, rfl⟩)))), fun a ha => ⟨by have := hpl a ha; omega, hrf _ (.inr (.inr ⟨a, ha, rfl⟩))⟩⟩
  refine ⟨_, by rw [hX']; exact zc (za (zb hbX fiW)) (i := 0) rfl, ?_⟩
  refine ⟨_, by rw [hX']; exact zc (za (zb hbX fdW)) (i := 0) rfl, ?_⟩
  rw [hX']
  have hJn : JG W.heap.size (fun _ => False) (fun pre F Z => J pre F Z ∧ W.heap.size ≤ Z.heap.size) := ⟨fun s F A B ⟨h, hn⟩ hs => ⟨hJ.step _ _ _ _ h hs, UM hn hs.size⟩, fun s F A k ⟨h, _⟩ hk => hJ.lt _ _ _ _ h hk⟩
  refine Gc (zmv (xs := qb l dom) (Jx := Jx) hJn (fun _ _ _ h => h.2) (fun pre x vs F W1 ⟨hj, hn⟩ hst hpre => YieldR.mono (hy pre x vs F W1 hj hst hpre) fun v W2 h => ?_) ht hd l.length zh7 W.heap.size [] F0 X (UW _) (zlC l) fX (UW _) hF ⟨hjX, hbX.size⟩ hlX hpX (List.prefix_refl _)) ?_
  · rcases h with ⟨rfl, F', h1, h2⟩ | h
    · exact .inl ⟨rfl, F', ⟨h1, UM hn h2.size⟩, h2⟩
    · exact .inr h
  · rintro e Y (⟨rfl, F', ⟨hj, _⟩, _⟩ | ⟨rfl, pre', F', h1, h2⟩)
    · exact ⟨⟨_, rfl⟩, .inl ⟨F', hj⟩⟩
    · exact ⟨⟨_, rfl⟩, .inr ⟨pre', F', h1, h2⟩⟩
end
section
variable {l:List InsD} {vals:List UInt8} {q p:OA} {cap cd:Nat} {w:Wd}
theorem zpe (hl:SlR zD w q l) (hp:SlR zJ w p vals) (hv1:1<=vals.length) (hvm:vals.length<=60000) (hok:z8 l 6=true) (hG:GlobE w) (hqb:l≠[]->∀ a,q=some a->a.block<w.heap.size) :
  Calls PG 44 #[.slice q l.length cap,.slice p vals.length cd,i64 4096] w fun e w'=>((∃ (xs:List zc2) (p':OA) (c':Nat),(qb l (qO vals)).length<=4096/\e = .returned (.tuple #[.slice p' xs.length c',i64 0])/\xs.map (·.1)=(qb l (qO vals)).map zaa/\OwnS jH 73 w.heap.size w' p' c' xs/\∀ x∈xs,PthO w.heap.size w' x)\/(4096<(qb l (qO vals)).length/\e = .returned (.tuple #[.slice none 0 0,i64 5])))/\Bw w w':=by
 have ht:=zku hok;have h12:l.length<=12:=ht.1;refine jf 45 [.slice q l.length cap,.slice p vals.length cd,i64 4096] (.c .p (.s .p (.c .p (.c .p (.c .p (.c .p .p)))))) Tryz.func44 ?_;obtain⟨L,hL⟩:=nm (w.heap.size);refine⟨Unit,fun _=>⟨[(0,.slice q l.length cap),(1,.slice p vals.length cd),(5,AtR L),(6,AtR (L+1)),(7,AtR (L+2))],[]⟩,fun _ X=>X.heap[L]?=some (.cells #[i64 4096] 3 (0,0))/\X.heap[L+1]?=some (.cells #[.slice none 0 0] 78 (0,0))/\X.heap[L+2]?=some (.cells #[i64 0] 34 (0,0))/\X.heap.size=L+3/\Bw w X,?_,?_⟩
 ·have s1:=wz w (.cells #[i64 4096] 3);have h2:=zy (w.alloc (.cells #[i64 4096] 3)) (.cells #[.slice none 0 0] 78);have s2:=wz (w.alloc (.cells #[i64 4096] 3)) (.cells #[.slice none 0 0] 78);have h3:=zy ((w.alloc (.cells #[i64 4096] 3)).alloc (.cells #[.slice none 0 0] 78)) (.cells #[i64 0] 34);have s3:=wz ((w.alloc (.cells #[i64 4096] 3)).alloc (.cells #[.slice none 0 0] 78)) (.cells #[i64 0] 34);rw [s1] at h2 s2;rw [s2] at h3 s3;refine⟨(),⟨.cons rfl (.cons rfl (.cons (by rw [hL];rfl) (.cons (by rw [hL,<- s1];rfl) (.cons (by rw [hL,<- s2];rfl) .nil)))),rfl⟩,?_,?_,?_,?_,?_⟩
  ·rw [hL];exact qF _ (qF _ (zy w _))
  ·rw [hL];exact qF _ h2
  ·rw [hL];exact h3
  ·rw [hL];exact s3
  ·exact (((zba w _)).alloc (by simp) _).alloc (by simp;omega) _
 rintro _ X ⟨f0,f1,f2,sX,hbX⟩;refine⟨_,zc (za f0) (i:=0) rfl,brF ⟨_,zc (za f0) (i:=0) rfl,brF (cmo (zpr (hl.below hbX) (hG.c.below hbX) (by omega)) ?_)⟩⟩;rintro e Y ⟨rfl,hbY⟩;rw [hok];refine brF ?_;have hwY:=zst hbX hbY;have f0:=zb hbY f0;have f1:=zb hbY f1;have f2:=zb hbY f2;have sY:=hbY.size;obtain⟨D,hD⟩:=nm (qO vals);have hdl:D.length<=256:=by rw [hD];exact zdj vals
 have hR:∀ R∈qb l D,R.many<=24/\zsD R:=fun R h=>⟨(zfJ ht D R h).1,fun i _=>(zfJ ht D R h).2 i⟩;rw [<- hD];refine⟨OA×Nat,fun s=>⟨[(0,.slice q l.length cap),(1,.slice s.1 D.length s.2),(5,AtR L),(6,AtR (L+1)),(7,AtR (L+2))],[]⟩,fun s Z=>OwnS zJ 5 (L+3) Z s.1 s.2 D/\Bw Y Z,?_,?_⟩
 ·refine cmo (zcX (hp.below hwY) hv1 hvm) ?_;rintro e Z ⟨⟨d,cc,rfl,ho⟩,hbZ⟩;rw [<- hD] at ho;exact⟨(d,cc),⟨.cons rfl (.cons (by rw [hD];rfl) (.cons rfl (.cons rfl (.cons rfl .nil)))),rfl⟩,OwnS.lower ho (by omega),hbZ⟩
 rintro⟨d,cc⟩ Z ⟨oD,hbZ⟩;dsimp only at oD ⊢;have hwZ:=zst hwY hbZ;have f0:=zb hbZ f0;have f1:=zb hbZ f1;have f2:=zb hbZ f2;have sZ:=hbZ.size;obtain⟨N,hN⟩:=nm (Z.heap.size);refine⟨Unit,fun _=>⟨[(0,.slice q l.length cap),(1,.slice d D.length cc),(5,AtR L),(6,AtR (L+1)),(7,AtR (L+2)),(8,AtR N)],[]⟩,fun _ V=>V.heap[N]?=some (.cells [i64 0].toArray 3 (0,0))/\V.heap.size=N+1/\Bw Z V,?_,?_⟩
 ·exact zn (X:=Z) (v:=i64 0) k3 rfl rfl rfl fun V hbV fV sV=>⟨(),⟨.cons rfl (.cons rfl (.cons rfl (.cons rfl (.cons rfl (.cons (by rw [hN];rfl) .nil))))),rfl⟩,by rw [hN];exact fV,by rw [hN];exact sV,hbV⟩
 rintro _ V ⟨fN,sV,hbV⟩;have hwV:=zst hwZ hbV;have f0:=zb hbV f0;have f1:=zb hbV f1;have f2:=zb hbV f2;have dlt:∀ a,d=some a->a.block<N:=fun a ha=>by rw [hN];exact (zak oD ha).2.1
 have oD:=oD.below hbV;have hNZ:w.heap.size<=N:=by rw [hN];exact hwZ.size
 have hNL:L+3<=N:=by omega
 obtain⟨xs0,hxs0⟩:=nm (qb l D);rw [<- hxs0] at hR ⊢;have dge:∀ a,d=some a->L+3<=a.block:=fun a ha=>(zak oD ha).1;refine⟨Nat,fun D1=>⟨[(0,.slice q l.length cap),(1,.slice d D.length cc),(5,AtR L),(6,AtR (L+1)),(7,AtR (L+2)),(8,AtR N)],[{ target := .collected D1,args := #[] }]⟩,fun D1 U=>xs0.length<=4096/\U.heap[N]?=some (.cells #[i64 xs0.length] 3 (0,0))/\U.heap[D1]?=some (.deferred (some []))/\N<D1/\V.grownBy U (some N),?_,?_⟩
 ·refine cmo ziB ?_;rintro e W ⟨rfl,fi,fd,sW,hbW⟩;have hwW:=zst hwV hbW;have fNW:=zb hbW fN;have f0W:=zb hbW f0;have f1W:=zb hbW f1;have f2W:=zb hbW f2;have qlt:l≠[]->∀ a,q=some a->a.block<w.heap.size:=hqb;have hI:=ziA (q:=q) (p:=d) (hl.below hwW) (oD.below hbW).row fi fd (fun hne a ha=>by have:=qlt hne a ha;have:=hwW.size;omega) (fun a ha=>by have:=dlt a ha;omega) ht (by omega);rw [<- hxs0] at hI;obtain⟨F0,hF0⟩:∃ F0:Nat->Prop,F0=fun k=>k=N\/k=L+1\/k=L+2:=⟨_,rfl⟩;refine zcL (zbe _) rfl (lb := #[AtR V.heap.size,AtR (V.heap.size+1)]) rfl rfl hI (UW _) (fun k hk=>⟨?_,rfl⟩) (fun pre vs W ⟨R,b,_,h,_⟩=>by rw [h];rfl) (by decide)
   F0 (fun pre F Y=>F=F0/\W.heap.size<=Y.heap.size/\pre.length<=4096/\Y.heap[N]?=some (.cells [i64 pre.length].toArray 3 (0,0))/\W.grownBy Y (some N))
   (fun ex pre F Y=>F=F0/\W.heap.size<=Y.heap.size/\ex = .ret/\4096<xs0.length/\Y.heap[L+1]?=some (.cells #[.slice none 0 0] 78 (0,0))/\Y.heap[L+2]?=some (.cells #[i64 5] 34 (0,0))/\Below L W Y) (fun k hk=>?_)
   (joG (F:=F0) (J:=fun (pre:List RunD) Y=>W.heap.size<=Y.heap.size/\pre.length<=4096/\Y.heap[N]?=some (.cells [i64 pre.length].toArray 3 (0,0))/\W.grownBy Y (some N)) (fun k h=>by rw [hF0] at h;omega) (fun s A h=>h.1) (fun pre A B ⟨h1,h2,h3,h4⟩ hb=>⟨UM h1 hb.size,h2,jh hb (by omega) h3,jl h4 hb⟩))
   (fun ex=>joG (F:=F0) (J:=fun (pre:List RunD) Y=>W.heap.size<=Y.heap.size/\ex = .ret/\4096<xs0.length/\Y.heap[L+1]?=some (.cells #[.slice none 0 0] 78 (0,0))/\Y.heap[L+2]?=some (.cells #[i64 5] 34 (0,0))/\Below L W Y) (fun k h=>by rw [hF0] at h;omega) (fun s A h=>h.1) (fun pre A B ⟨h1,h2,h3,h4,h5,h6⟩ hb=>⟨UM h1 hb.size,h2,h3,jh hb (by omega) h4,jh hb (by omega) h5,h6.trans (hb.mono (by omega))⟩))
   ⟨rfl,UW _,UZ _,fNW,z6 _ _⟩ ?_ ?_ ?_
  ·rcases hk with ((rfl | rfl) | ⟨hne,a,ha,rfl⟩ | ⟨a,ha,rfl⟩) | h
   ·omega
   ·omega
   ·have:=qlt hne a ha;have:=hwW.size;omega
   ·have:=dlt a ha;omega
   ·exact h.elim
  ·rw [hF0];rcases hk with (rfl | rfl) | ⟨hne,a,ha,rfl⟩ | ⟨a,ha,rfl⟩
   ·omega
   ·omega
   ·have:=qlt hne a ha;omega
   ·have:=dlt a ha;have:=dge a ha;omega
  ·rintro yl pre x vs F Y hyl hpre hJ ⟨R',b',_,rfl,_⟩ hfy hlo;refine⟨rfl,F,KeepsG.refl _ _,hJ,?_⟩;rintro o Y2 hY2 ⟨rfl,h1,h4,h2,h3⟩;have hpl:pre.length<xs0.length:=by
    obtain⟨t,ht⟩:=hpre;rw [<- ht];simp only [lap,Qt];omega
   have g0:Y2.heap[L]?=some (.cells #[i64 4096] 3 (0,0)):=(h3.block L (hlt f0W) (by simp;omega)).trans f0W;refine⟨_,zc (za h2) (i:=0) rfl,_,zc (za g0) (i:=0) rfl,biE (fun hc=>?_) fun hc=>?_⟩
   ·have hc:(pre.length:Int)=4096:=dT hc;have g1:Y2.heap[L+1]?=some (.cells #[.slice none 0 0] 78 (0,0)):=(h3.block (L+1) (hlt f1W) (by simp;omega)).trans f1W;have g2:Y2.heap[L+2]?=some (.cells #[i64 0] 34 (0,0)):=(h3.block (L+2) (hlt f2W) (by simp;omega)).trans f2W;refine zk k78 g1 (o:=0) (v := .slice none 0 0) rfl rfl (by show 0<1;decide) rfl fun Z1 fZ1 gZ1 sZ1=>?_;have g2':=(gZ1.block (L+2) (hlt g2) (by simp)).trans g2;exact zk k34 g2' (o:=0) (v:=i64 5) rfl rfl (by show 0<1;decide) rfl fun Z2 fZ2 gZ2 sZ2=>⟨F,⟨rfl,by omega,rfl,by omega,(gZ2.block (L+1) (hlt fZ1) (by simp)).trans fZ1,fZ2,gZ2.os.trans (gZ1.os.trans h3.os),gZ2.tape.trans (gZ1.tape.trans h3.tape),gZ2.output.trans (gZ1.output.trans h3.output),by omega,fun k hk=>(gZ2.block k (by omega) (by simp;omega)).trans ((gZ1.block k (by omega) (by simp;omega)).trans (h3.block k (by omega) (by simp;omega)))⟩,(KeepsG.grown (F:=F) gZ1 (by rw [hF0];exact .inr (.inl rfl))).trans (KeepsG.grown (F:=F) gZ2 (by rw [hF0];exact .inr (.inr rfl)))⟩
   ·have hc:¬ (pre.length:Int)=4096:=dF hc;refine⟨_,zc (za h2) (i:=0) rfl,((pre.length+1:Nat):Int),(ze (by omega)).trans (by omega),zk k3 h2 (o:=0) (v:=i64 (pre.length+1:Nat)) rfl rfl (by show 0<1;decide) rfl fun Z fZ gZ sZ=>⟨_,⟨rfl,by omega,by rw [lap];show pre.length+1<=4096;omega,?_,zd h3 gZ⟩,KeepsG.grown (F:=F) gZ (by rw [hF0];exact .inl rfl)⟩⟩;rw [lap];exact fZ
  ·rintro D1 F Y hD hfD ⟨rfl,h1,h4,h2,h3⟩ hdef;refine⟨D1,(cvE rfl rfl),h4,h2,hdef,by omega,?_⟩;exact zd (zf hbW) h3
  ·rintro D ex pre F Y hD hfD hpre ⟨rfl,h1,rfl,hlong,g1,g2,hbY⟩ hdef;refine⟨_,rfl,hdef,.slice none 0 0,zc (za ((zg (by omega)).trans g1)) (i:=0) rfl,i64 5,zc (za ((zg (by omega)).trans g2)) (i:=0) rfl,.inr ⟨hlong,rfl⟩,?_⟩;have hwY:=hwW.trans (hbY.mono (by omega));exact qQ hwY (by have:=hwV.size;omega) _
 clear fN sV;rintro D1 U ⟨hm,fN,fD1,hND,gU⟩;have old:∀ {k:Nat} {o:Obj},k≠N->V.heap[k]?=some o->U.heap[k]?=some o:=fun {k o} hne h=>(gU.block k (hlt h) (by simpa using hne)).trans h;have sU:=gU.size;have hNV:=hbV.size;have f1:=old (by omega) f1;have f2:=old (by omega) f2;have oD:OwnS zJ 5 (L+3) U d cc D:=oD.kept gU fun g hg e=>by
  have:g<N:=dlt _ hg;simp only [Qa] at e;omega
 have hwU:Bw w U:=hwV.trans ⟨gU.os,gU.tape,gU.output,gU.size,fun k hk=>gU.block k (by have:=hwV.size;omega) (by simp;omega)⟩;clear f0 old gU hbV hwV;obtain⟨M,hM⟩:=nm (U.heap.size);have hDU:=hlt fD1;refine⟨OA×Nat,fun s=>⟨[(0,.slice q l.length cap),(1,.slice d D.length cc),(6,AtR (L+1)),(7,AtR (L+2)),(9,AtR (M+1))],[{ target := .collected D1,args := #[] }]⟩,fun s Z=>Z.heap[M+1]?=some (.cells [.slice s.1 0 s.2].toArray 78 (0,0))/\OwnS jH 73 M Z s.1 s.2 []/\(∀ a,s.1=some a->a.block=M)/\Z.heap.size=M+2/\Bw U Z,?_,?_⟩
 ·refine⟨_,zc (za fN) (i:=0) rfl,zcS (E:=jH) Tryz.underlying78 k73 rfl rfl rfl xs0.length (by show 104*_<=_;omega) (by unfold maxLen;omega) fun Z oZ hbZ' sZ'=>zn (X:=Z) (v := .slice (some ⟨U.heap.size,0,none⟩) 0 xs0.length) k78 rfl rfl rfl fun Z2 hbZ2 fZ2 sZ2=>?_⟩;rw [<- hM] at oZ sZ';rw [sZ'] at fZ2 sZ2;refine⟨(some ⟨M,0,none⟩,xs0.length),⟨.cons rfl (.cons rfl (.cons rfl (.cons rfl (.cons (by rw [<- sZ'];rfl) .nil)))),rfl⟩,by rw [hM] at fZ2 ⊢;exact fZ2,oZ.below hbZ2,fun a ha=>by cases ha;rfl,sZ2,hbZ'.trans (hbZ2.mono hbZ'.size)⟩
 clear fN;rintro⟨p0,c0⟩ V ⟨fV,oV,p0M,sV,hbV⟩;dsimp only at fV oV p0M;have f1:=zb hbV f1;have f2:=zb hbV f2;have fD1:=zb hbV fD1;have oD:=oD.below hbV;have hwV:=zst hwU hbV;have hMU:w.heap.size<=M:=by rw [hM];exact hwU.size
 have dlt2:∀ a,d=some a->a.block<N:=dlt;refine cmo ziB ?_;rintro e W ⟨rfl,fi,fd,sW,hbW⟩;have hwW:=zst hwV hbW;have hVM:Bw V W:=hbW;have hI:=ziA (q:=q) (p:=d) (hl.below hwW) (oD.below hbW).row fi fd (fun hne a ha=>by have:=hqb hne a ha;have:=hwW.size;omega) (fun a ha=>by have:=dlt a ha;omega) ht (by omega);rw [<- hxs0] at hI;refine zcL (zbe _) rfl (lb := #[AtR V.heap.size,AtR (V.heap.size+1)]) rfl rfl hI (UW _) (fun k hk=>⟨?_,rfl⟩) (fun pre vs W ⟨R,b,_,h,_⟩=>by rw [h];rfl) (by decide)
  (fun k=>k=M+1\/k=M) (JPa M W.heap.size (M+1) W) (fun _ _ _ _=>False) (fun k hk=>?_)
  (JPa.iter (by omega) rfl) (fun ex=>⟨fun _ _ _ _ h=>h.elim,fun _ _ _ _ h=>h.elim⟩) ⟨⟨UW _,.inl rfl,fun k hk=>by omega⟩,⟨[],p0,c0,zb hbW fV,⟨oV.below hbW,fun a ha => .inr (p0M a ha)⟩,rfl,fun x hx=>(by cases hx)⟩,Gb _ _⟩ ?_ ?_ ?_
 ·rcases hk with ((rfl | rfl) | ⟨hne,a,ha,rfl⟩ | ⟨a,ha,rfl⟩) | h
  ·omega
  ·omega
  ·have:=hqb hne a ha;have:=hwW.size;omega
  ·have:=dlt a ha;omega
  ·exact h.elim
 ·rcases hk with (rfl | rfl) | ⟨hne,a,ha,rfl⟩ | ⟨a,ha,rfl⟩
  ·omega
  ·omega
  ·have:=hqb hne a ha;omega
  ·have:=dlt a ha;omega
 ·rintro yl pre x vs F Y hyl hpre hJ ⟨R,b,hlast,rfl,fR⟩ hfy ⟨lo,hlo⟩;have hxR:x=R:=by simpa using hlast
  subst hxR;refine⟨rfl,F,KeepsG.refl _ _,hJ,?_⟩;rintro o Y2 hY2 ⟨⟨h1,h2,h3⟩,⟨xs,p,c,h4,h5,h6,h7⟩,h8⟩;have hbl:b≠yl:=fun e=>by
   rw [e] at fR;rw [fR] at hlo
   cases hlo
  have fR2:jq Y2 b x:=by rw [hY2];exact (zg hbl).trans fR
  have hmem:x∈xs0:=hpre.subset (by simp);obtain⟨r1,r2⟩:=hR x hmem;have hxl:xs.length=pre.length:=by
   have:=Gj List.length h6;rw [QN,QN] at this;exact this
  have hpl:pre.length<xs0.length:=by
   obtain⟨t,ht⟩:=hpre;rw [<- ht];simp only [lap,Qt];omega
  have hwY2:Bw w Y2:=hwW.trans (h8.mono hMU);have hd2:Bw Y2 Y2.drew:=(Gb _ _).drew;have hwY2d:Bw w Y2.drew:=zst hwY2 hd2;refine DrawE.ord [4,5] [0,1,2,3,4,5] (by kernel_rfl) ⟨_,zc (za (hdr h4)) (i:=0) rfl,cmo (zrn (hdr fR2) r1 r2 (hG.t32.below hwY2d)) ?_⟩;rintro e Y3 ⟨⟨q1,k1,q2,k2,q3,k3,q4,k4,rfl,o1,o2,o3,o4⟩,hb3⟩;refine⟨hb3,?_⟩;obtain⟨nx,hnx⟩:∃ nx:zc2,nx=(zaa x,(q1,k1),(q2,k2),(q3,k3),(q4,k4)):=⟨_,rfl⟩;have hen:zgX (zaa x) q1 k1 q2 k2 q3 k3 q4 k4=jH.enc nx:=by rw [hnx];rfl
  rw [hen];refine⟨⟨by decide,by decide,rfl⟩,jH.enc nx,za4 (jH.len nx) rfl,?_⟩;have hba:Bw Y3 (Y3.alloc (.cells (jH.enc nx).toArray 73)):=zba _ _;have sa:(Y3.alloc (.cells (jH.enc nx).toArray 73)).heap.size=Y3.heap.size+1:=wz _ _;have s3:Y2.heap.size<=Y3.heap.size:=hb3.size;refine⟨hba,?_⟩;have hb2:Bw Y2 (Y3.alloc (.cells (jH.enc nx).toArray 73)):=(hd2.trans hb3).trans (hba.mono s3);refine ju (E:=jH) (T:=73) (B:=M) (l:=xs) (news:=[nx]) (cap:=c) (m:=1) Tryz.underlying78 k73 rfl rfl rfl (h5.own.below hb2) rfl (qN jH nx) (by omega) (by omega) (by show (xs.length+1)*104<=_;omega) ?_;intro p2 c2 Y5 o5 g5 hb5 hat;have h4':Y5.heap[M+1]?=some (.cells [.slice p xs.length c].toArray 78 (0,0)):=by
   refine (g5.block (M+1) (hlt (zb hb2 h4)) fun e=>?_).trans (zb hb2 h4)
   cases hp:p with
   | none=>rw [hp] at e;simp [Value.ownBlock] at e
   | some a =>
    rw [hp] at e;simp only [Value.ownBlock,Qa] at e;obtain⟨_,_,cur,hcur⟩:=zak h5.own hp;rw [<- e] at hcur;rw [hcur] at h4;simp at h4
  refine zk k78 h4' (o:=0) (v := .slice p2 (xs++[nx]).length c2) rfl rfl (by show 0<1;decide) rfl fun Z fZ gZ sZ=>?_;have s5:=g5.size;have wr:∀ k,k<Y2.heap.size->k≠M+1->(∀ a,p=some a->k≠a.block)->Z.heap[k]?=Y2.heap[k]?:=fun k hk hne hnp=>by
   refine (gZ.block k (by omega) (by simpa using hne)).trans ((g5.block k (by omega) fun e=>?_).trans (hb2.block k hk))
   cases hp:p with
   | none=>rw [hp] at e;simp [Value.ownBlock] at e
   | some a =>
    rw [hp] at e;simp only [Value.ownBlock,Qa] at e;exact hnp a hp e
  have new:∀ k,Y2.heap.size<=k->k<Y3.heap.size->Z.heap[k]?=Y3.heap[k]?:=fun k hk1 hk2=>by
   refine (gZ.block k (by omega) (by simp;omega)).trans ((g5.block k (by omega) fun e=>?_).trans (hba.block k hk2))
   cases hp:p with
   | none=>rw [hp] at e;simp [Value.ownBlock] at e
   | some a =>
    rw [hp] at e;simp only [Value.ownBlock,Qa] at e;have:=h3 _ (h5.inF a hp);omega
  have tyne:∀ {α:Type} {E:Enc α} {T c:Nat} {r:OA} {B:Nat} {ll:List α},T≠73->T≠78->OwnS E T B Y2 r c ll->∀ a,r=some a->Z.heap[a.block]?=Y2.heap[a.block]?:=fun {α E T c r B ll} t1 t2 ho a ha=>by
   obtain⟨_,hl2,cur,hcur⟩:=zak ho ha;refine wr _ hl2 (fun e=>?_) (fun a' ha' e=>?_)
   ·rw [e,h4] at hcur;simp at hcur;exact t2 hcur.2.symm
   ·obtain⟨_,_,cur',hcur'⟩:=zak h5.own ha';rw [e,hcur'] at hcur;simp at hcur;exact t1 hcur.2.symm
  have inNew:∀ {α:Type} {E:Enc α} {T c:Nat} {r:OA} {ll:List α},OwnS E T Y2.drew.heap.size Y3 r c ll->RowIn E T W.heap.size (fun k=>F k\/(Y2.heap.size<=k/\k<Z.heap.size)) Z r c ll:=fun {α E T c r ll} ho=>by
   refine⟨OwnS.lower (ho.same fun a ha=>?_) h1,fun a ha=>?_⟩
   ·have:=zak ho ha;exact new _ this.1 this.2.1
   ·have h:=zak ho ha;have ha1:Y2.heap.size<=a.block:=h.1;exact .inr ⟨ha1,by have:=h.2.1;omega⟩
  refine⟨fun k=>F k\/(Y2.heap.size<=k/\k<Z.heap.size),⟨⟨by omega,.inl h2,fun k hk=>?_⟩,⟨xs++[nx],p2,c2,fZ,⟨o5.kept gZ fun g hg e=>?_,fun a ha=>?_⟩,?_,fun y hy=>?_⟩,?_⟩,⟨gZ.os.trans (g5.os.trans hb2.os),gZ.tape.trans (g5.tape.trans hb2.tape),gZ.output.trans (g5.output.trans hb2.output),by omega,fun k hk hf=>wr k hk (fun e=>hf (by rw [e];exact h2)) (fun a ha e=>hf (by rw [e];exact h5.inF a ha)),fun k hk=>hk.imp id fun h=>h.1⟩⟩
  ·rcases hk with hk | hk
   ·have:=h3 k hk;omega
   ·exact hk.2
  ·have:=zak o5 hg;obtain⟨_,_,cur,hcur⟩:=this;simp only [Qa] at e;have hcur:Y5.heap[g]?=_:=hcur;rw [<- e,h4'] at hcur;simp at hcur
  ·rcases hat a ha with h | h
   ·exact .inl (h5.inF a h)
   ·have:=(zak o5 ha).2.1;exact .inr ⟨by omega,by omega⟩
  ·rw [QR,h6,QR,hnx];rfl
  ·rcases QS.1 hy with hy | hy
   ·have h:=h7 y hy;have st:∀ {α:Type} {E:Enc α} {T c:Nat} {r:OA} {ll:List α},T≠73->T≠78->RowIn E T W.heap.size F Y2 r c ll->RowIn E T W.heap.size (fun k=>F k\/(Y2.heap.size<=k/\k<Z.heap.size)) Z r c ll:=fun {α E T c r ll} t1 t2 hh=>⟨hh.own.same fun a ha=>tyne t1 t2 hh.own a ha,fun a ha => .inl (hh.inF a ha)⟩;exact⟨st (by decide) (by decide) h.1,st (by decide) (by decide) h.2.1,st (by decide) (by decide) h.2.2.1,st (by decide) (by decide) h.2.2.2⟩
   ·simp only [KB] at hy;subst hy;rw [hnx];exact⟨inNew o1,inNew o2,inNew o3,inNew o4⟩
  ·refine h8.trans ⟨gZ.os.trans (g5.os.trans hb2.os),gZ.tape.trans (g5.tape.trans hb2.tape),gZ.output.trans (g5.output.trans hb2.output),by omega,fun k hk=>wr k (by omega) (by omega) fun a ha=>?_⟩;have:=(zak h5.own ha).1;omega
 ·rintro D2 F Y hD hfD ⟨⟨h1,h2,h3⟩,⟨xs,p,c,h4,h5,h6,h7⟩,h8⟩ hdef;have g1:Y.heap[L+1]?=some (.cells #[.slice none 0 0] 78 (0,0)):=(h8.block (L+1) (by omega)).trans (zb hbW f1);have g2:Y.heap[L+2]?=some (.cells #[i64 0] 34 (0,0)):=(h8.block (L+2) (by omega)).trans (zb hbW f2);have gD:Y.heap[D1]?=some (.deferred (some [])):=(h8.block D1 (by omega)).trans (zb hbW fD1);refine⟨_,zc (za h4) (i:=0) rfl,zk k78 g1 (o:=0) (v := .slice p xs.length c) rfl rfl (by show 0<1;decide) rfl fun Z1 fZ1 gZ1 sZ1=>?_⟩;have g2':=(gZ1.block (L+2) (hlt g2) (by simp)).trans g2;refine zk k34 g2' (o:=0) (v:=i64 0) rfl rfl (by show 0<1;decide) rfl fun Z2 fZ2 gZ2 sZ2=>?_;have hYs:M<Y.heap.size:=by omega
  have k2:∀ k,k<Y.heap.size->k≠L+1->k≠L+2->Z2.heap[k]?=Y.heap[k]?:=fun k hk n1 n2=>(gZ2.block k (by rw [sZ1];exact hk) (by simpa using n2)).trans (gZ1.block k hk (by simpa using n1));have hdef2:=(k2 D2 (hlt hdef) (by omega) (by omega)).trans hdef;have hD12:=(k2 D1 (hlt gD) (by omega) (by omega)).trans gD;have fZ1':=(gZ2.block (L+1) (hlt fZ1) (by simp)).trans fZ1;have neD:D1≠D2:=by omega
  refine⟨_,rfl,hdef2,_,rfl,(zg neD).trans hD12,?_⟩;obtain⟨Zf,hZf⟩:=nm ((Z2.putObj D2 (.deferred none)).putObj D1 (.deferred none));have kf:∀ k,k≠D1->k≠D2->Zf.heap[k]?=Z2.heap[k]?:=fun k n1 n2=>by rw [hZf];exact (zg n1).trans (zg n2)
  refine⟨.slice p xs.length c,?_,i64 0,?_,.inl ⟨xs,p,c,hm,rfl,h6,?_,fun x hx=>?_⟩,?_⟩
  ·exact zc (za (by rw [<- hZf];exact (kf (L+1) (by omega) (by omega)).trans fZ1')) (i:=0) rfl
  ·exact zc (za (by rw [<- hZf];exact (kf (L+2) (by omega) (by omega)).trans fZ2)) (i:=0) rfl
  ·rw [<- hZf];refine OwnS.lower (h5.own.same fun a ha=>?_) hMU;have h:=zak h5.own ha;have n1:a.block≠D2:=fun e=>by rw [<- e] at hfD;exact hfD (h5.inF a ha)
   exact (kf _ (by omega) n1).trans (k2 _ h.2.1 (by omega) (by omega))
  ·have h:=h7 x hx;have st:∀ {α:Type} {E:Enc α} {T c:Nat} {r:OA} {ll:List α},RowIn E T W.heap.size F Y r c ll->OwnS E T w.heap.size Zf r c ll:=fun {α E T c r ll} hh=>by
    refine OwnS.lower (hh.own.same fun a ha=>?_) hwW.size;have h:=zak hh.own ha;have n1:a.block≠D2:=fun e=>by rw [<- e] at hfD;exact hfD (hh.inF a ha)
    exact (kf _ (by omega) n1).trans (k2 _ h.2.1 (by omega) (by omega))
   rw [<- hZf];exact⟨st h.1,st h.2.1,st h.2.2.1,st h.2.2.2⟩
  ·have hwY:Bw w Y:=hwW.trans (h8.mono hMU);have b1:=(hwY.trans (zi gZ1 hwY.size (by omega))).trans (zi gZ2 (by rw [sZ1];exact hwY.size) (by omega));exact qQ (qQ b1 (by omega) _) (by omega) _
 ·rintro D ex pre F Y hD hfD hpre h;exact h.elim
end
def wrE (R:RunD) (i:Nat) (v:UInt8):Bool:=(List.range i).any fun j=>decide ((R.ev j).k=2)&&decide ((R.ev j).v=v)
def wrL (rs:List RunD) (v:UInt8):Bool:=rs.any fun R=>wrE R R.many v
theorem zkq (rs:List RunD):jJ rs=zP.filter (wrL rs):=rfl
def wrC (f:UInt8->Bool):List Value:=seg 256 fun i => .bool (f (UInt8.ofNat i))
theorem zkr (f:UInt8->Bool) {i:Nat} (h:i<256):(wrC f)[i]?=some (.bool (f (UInt8.ofNat i))):=zax _ h
theorem zpp (f:UInt8->Bool) (x:UInt8):(wrC f).set x.toNat (.bool true)=wrC fun v=>f v||decide (x=v):=by
 have hx:=x.toNat_lt;apply KR;intro j;by_cases hj:j<256
 ·rw [zkr _ hj];by_cases e:x.toNat=j
  ·subst e;rw [JE (by unfold wrC;rw [zo];exact hx),UInt8.ofNat_toNat,Us rfl,Bool.or_true]
  ·rw [JV e,zkr _ hj];have:x≠UInt8.ofNat j:=fun h=>e (by rw [h,KI];omega);rw [Uh this,Ux]
 ·rw [JK (by unfold wrC;rw [QQ,zo];omega),JK (by unfold wrC;rw [zo];omega)]
theorem zlt (f:UInt8->Bool):(wrC f).length=256:=zo _ _
theorem znu (rs:List RunD) (R:RunD) (v:UInt8):wrL (rs++[R]) v=(wrL rs v||wrE R R.many v):=by
 unfold wrL;rw [List.any_append];simp
theorem znw (R:RunD) (i:Nat) (v:UInt8):wrE R (i+1) v=(wrE R i v||(decide ((R.ev i).k=2)&&decide ((R.ev i).v=v))):=by
 unfold wrE;rw [QW,List.any_append];simp
theorem zk0 (p:UInt8->Bool) (x:UInt8):[x].filter p=if p x=true then [x] else []:=by
 rw [Qo,List.filter_nil]
theorem zoX {k:Nat} (h:k<256):∃ hl:k<zP.length,zP[k]=UInt8.ofNat k:=by
 have hl:zP.length=256:=by unfold zP;rw [QN,KW]
 refine⟨by rw [hl];exact h,?_⟩;simp [zP]
theorem zsJ:List.replicate 256 (Value.bool false)=wrC fun _=>false:=by kernel_rfl
theorem zc9 {a b:Nat}:decide ((a:Int)<(b:Int))=decide (a<b):=by rw [QG];omega
def jw (c:Cnd):Bool:=decide (c.thread=0)&&(decide (c.n=0)&&decide (c.val=0))
theorem zal {threads locs d:Nat} (c:Cnd):jE threads locs (d+1) c=(if c.kind=0 then jw c&&decide (c.kids.length=0) else
  if c.kind=1 then decide (c.thread.toNat<threads)&&(decide (c.n.toNat<8)&&decide (c.kids.length=0)) else
  if c.kind=2 then decide (c.n.toNat<locs)&&(decide (c.thread=0)&&decide (c.kids.length=0)) else
  if c.kind=3\/c.kind=4 then jw c&&(decide (2<=c.kids.length)&&c.kids.all (jE threads locs d)) else
  if c.kind=5 then jw c&&(decide (c.kids.length=1)&&c.kids.all (jE threads locs d)) else false):=by
 obtain⟨k,t,n,v,kids⟩:=c;rfl
def zq3 (c:Cnd):Prop:=(c.kind=3\/c.kind=4)/\jw c=true/\2<=c.kids.length\/c.kind=5/\jw c=true/\c.kids.length=1
theorem zk7 {threads locs d:Nat} {c:Cnd} (h:zq3 c):jE threads locs (d+1) c=c.kids.all (jE threads locs d):=by
 rw [zal];rcases h with ⟨h1,h2,h3⟩ | ⟨h1,h2,h3⟩
 ·rw [Gn (by rcases h1 with h | h <;> rw [h] <;> decide),Gn (by rcases h1 with h | h <;> rw [h] <;> decide),Gn (by rcases h1 with h | h <;> rw [h] <;> decide),Gp h1,h2,Us h3];rfl
 ·rw [Gn (by rw [h1];decide),Gn (by rw [h1];decide),Gn (by rw [h1];decide),Gn (by rw [h1];decide),Gp h1,h2,Us h3];rfl
theorem zj0 {B threads locs:Nat} {w:Wd} (hB:B<=w.heap.size):∀ (d:Nat) (c:Cnd) (b o:Nat) (p:OA) (cap:Nat),d<=1000->b<B->zx w ⟨b,o,none⟩ (jO c p cap)->KidsV B w p c.kids ->
  Calls PG 92 #[.pointer (some ⟨b,o,none⟩),i64 threads,i64 locs,i64 d] w fun e w'=>e = .returned (.bool (jE threads locs d c))/\w=w':=by
 intro d
 induction d with
 | zero =>
  intro c b o p cap _ hb hc hk;refine zH 141 [.pointer (some ⟨b,o,none⟩),i64 threads,i64 locs,i64 0] Tryz.func92 ?_;exact brT ⟨rfl,rfl⟩
 | succ d ih =>
  intro c b o p cap hd hb hc hk;refine jf 141 [.pointer (some ⟨b,o,none⟩),i64 threads,i64 locs,i64 (d+1:Nat)] (.s .p (.s .p (.c .p (.c .p .p)))) Tryz.func92 ?_;have hbl:b<w.heap.size:=nL hb hB;refine biE (fun h=>?_) fun h=>?_
  ·have h:((d+1:Nat):Int)=0:=dT h;omega
  clear h;refine⟨Unit,fun _=>⟨[(0,.pointer (some ⟨b,o,none⟩)),(1,i64 threads),(2,i64 locs),(3,i64 (d+1:Nat)),(9,.bool (jw c))],[]⟩,fun _ X=>w=X,?_,?_⟩
  ·have fin:∀ {v:Bool},v=jw c->some (Value.bool v)=some (.bool (jw c)):=fun h=>by rw [h]
   refine⟨_,zc hc (i:=1) rfl,biE (fun h1=>?_) fun h1=>?_⟩
   ·have h1:decide (c.thread=0)=true:=(u8d c.thread 0).symm.trans h1;refine⟨_,zc hc (i:=2) rfl,biE (fun h2=>?_) fun h2=>?_⟩
    ·have h2:decide (c.n=0)=true:=(u8d c.n 0).symm.trans h2;exact⟨_,zc hc (i:=3) rfl,(),⟨.cons rfl (.cons rfl (.cons rfl (.cons rfl (.cons (fin (by unfold jw;rw [h1,h2];exact u8d c.val 0)) .nil)))),rfl⟩,rfl⟩
    ·have h2:decide (c.n=0)=false:=(u8d c.n 0).symm.trans h2;exact⟨(),⟨.cons rfl (.cons rfl (.cons rfl (.cons rfl (.cons (fin (by unfold jw;rw [h1,h2];rfl)) .nil)))),rfl⟩,rfl⟩
   ·have h1:decide (c.thread=0)=false:=(u8d c.thread 0).symm.trans h1;exact brF ⟨(),⟨.cons rfl (.cons rfl (.cons rfl (.cons rfl (.cons (fin (by unfold jw;rw [h1];rfl)) .nil)))),rfl⟩,rfl⟩
  rintro _ _ rfl;refine⟨Unit,fun _=>⟨[(0,.pointer (some ⟨b,o,none⟩)),(1,i64 threads),(2,i64 locs),(3,i64 (d+1:Nat))],[]⟩,fun _ X=>zq3 c/\w=X,?_,?_⟩
  ·have hkn:c.kids.length<=140737488351232:=by have:=hk.inv.1;omega
   refine⟨_,zc hc (i:=0) rfl,biE (fun h0=>?_) fun h0=>?_⟩
   ·have h0:c.kind=0:=dT ((u8d c.kind 0).symm.trans h0);have e:jE threads locs (d+1) c=(jw c&&decide (c.kids.length=0)):=(by rw [zal,Gp h0]);rw [e];refine biE (fun h=>?_) fun h=>?_
    ·have h:jw c=true:=h;exact⟨_,zc hc (i:=4) rfl,rb (by rw [h,Uy];exact zbJ),rfl⟩
    ·have h:jw c=false:=h;exact⟨rb (by rw [h];rfl),rfl⟩
   have h0:¬ c.kind=0:=dF ((u8d c.kind 0).symm.trans h0);refine biE (fun h1=>?_) fun h1=>?_
   ·have h1:c.kind=1:=dT ((u8d c.kind 1).symm.trans h1);have e:jE threads locs (d+1) c=(decide (c.thread.toNat<threads)&&(decide (c.n.toNat<8)&&decide (c.kids.length=0))):=(by rw [zal,Gn h0,Gp h1]);rw [e];refine⟨_,zc hc (i:=1) rfl,_,qH _,biE (fun h=>?_) fun h=>?_⟩
    ·have h:decide (c.thread.toNat<threads)=true:=zc9.symm.trans h;refine⟨_,zc hc (i:=2) rfl,biE (fun h2=>?_) fun h2=>?_⟩
     ·have h2:decide (c.n.toNat<8)=true:=(zc9 (b:=8)).symm.trans h2;exact⟨_,zc hc (i:=4) rfl,rb (by rw [h,h2];exact zbJ),rfl⟩
     ·have h2:decide (c.n.toNat<8)=false:=(zc9 (b:=8)).symm.trans h2;exact⟨rb (by rw [h,h2];rfl),rfl⟩
    ·have h:decide (c.thread.toNat<threads)=false:=zc9.symm.trans h;exact brF ⟨rb (by rw [h];rfl),rfl⟩
   have h1:¬ c.kind=1:=dF ((u8d c.kind 1).symm.trans h1);refine biE (fun h2=>?_) fun h2=>?_
   ·have h2:c.kind=2:=dT ((u8d c.kind 2).symm.trans h2);have e:jE threads locs (d+1) c=(decide (c.n.toNat<locs)&&(decide (c.thread=0)&&decide (c.kids.length=0))):=(by rw [zal,Gn h0,Gn h1,Gp h2]);rw [e];refine⟨_,zc hc (i:=2) rfl,_,qH _,biE (fun h=>?_) fun h=>?_⟩
    ·have h:decide (c.n.toNat<locs)=true:=zc9.symm.trans h;refine⟨_,zc hc (i:=1) rfl,biE (fun h3=>?_) fun h3=>?_⟩
     ·have h3:decide (c.thread=0)=true:=(u8d c.thread 0).symm.trans h3;exact⟨_,zc hc (i:=4) rfl,rb (by rw [h,h3];exact zbJ),rfl⟩
     ·have h3:decide (c.thread=0)=false:=(u8d c.thread 0).symm.trans h3;exact⟨rb (by rw [h,h3];rfl),rfl⟩
    ·have h:decide (c.n.toNat<locs)=false:=zc9.symm.trans h;exact brF ⟨rb (by rw [h];rfl),rfl⟩
   have h2:¬ c.kind=2:=dF ((u8d c.kind 2).symm.trans h2);have g34:∀ (hk34:c.kind=3\/c.kind=4),jE threads locs (d+1) c=(jw c&&(decide (2<=c.kids.length)&&c.kids.all (jE threads locs d))):=fun hk34=>by
    rw [zal,Gn h0,Gn h1,Gn h2,Gp hk34]
   refine biE (fun h3=>?_) fun h3=>?_
   ·have h3':decide ((c.kind.toNat:Int)=3)=true:=h3;have h3:c.kind=3\/c.kind=4 := .inl (dT ((u8d c.kind 3).symm.trans h3));refine brE h3' (biE (fun h=>?_) fun h=>?_)
    ·have h:(!jw c)=true:=h;have h:jw c=false:=(by simpa using h);exact brT ⟨rb (by rw [g34 h3,h];rfl),rfl⟩
    ·have h:(!jw c)=false:=h;have h:jw c=true:=(by simpa using h);refine⟨_,zc hc (i:=4) rfl,biE (fun h4=>?_) fun h4=>?_⟩
     ·have h4:(c.kids.length:Int)<2:=dT h4;exact⟨rb (by rw [g34 h3,Uh (by omega)];simp),rfl⟩
     ·have h4:¬ (c.kids.length:Int)<2:=dF h4;exact⟨(),(cvE rfl rfl),.inl ⟨h3,h,by omega⟩,rfl⟩
   have h3:¬ c.kind=3:=dF ((u8d c.kind 3).symm.trans h3);refine biE (fun h4=>?_) fun h4=>?_
   ·have h3:c.kind=3\/c.kind=4 := .inr (dT ((u8d c.kind 4).symm.trans h4));refine biE (fun h=>?_) fun h=>?_
    ·have h:(!jw c)=true:=h;have h:jw c=false:=(by simpa using h);exact brT ⟨rb (by rw [g34 h3,h];rfl),rfl⟩
    ·have h:(!jw c)=false:=h;have h:jw c=true:=(by simpa using h);refine⟨_,zc hc (i:=4) rfl,biE (fun h4=>?_) fun h4=>?_⟩
     ·have h4:(c.kids.length:Int)<2:=dT h4;exact⟨rb (by rw [g34 h3,Uh (by omega)];simp),rfl⟩
     ·have h4:¬ (c.kids.length:Int)<2:=dF h4;exact⟨(),(cvE rfl rfl),.inl ⟨h3,h,by omega⟩,rfl⟩
   have h4:¬ c.kind=4:=dF ((u8d c.kind 4).symm.trans h4);have h34:¬ (c.kind=3\/c.kind=4):=fun h=>h.elim h3 h4;refine biE (fun h5=>?_) fun h5=>?_
   ·have h5:c.kind=5:=dT ((u8d c.kind 5).symm.trans h5);have e:jE threads locs (d+1) c=(jw c&&(decide (c.kids.length=1)&&c.kids.all (jE threads locs d))):=(by rw [zal,Gn h0,Gn h1,Gn h2,Gn h34,Gp h5]);refine biE (fun h=>?_) fun h=>?_
    ·have h:(!jw c)=true:=h;have h:jw c=false:=(by simpa using h);exact brT ⟨rb (by rw [e,h];rfl),rfl⟩
    ·have h:(!jw c)=false:=h;have h:jw c=true:=(by simpa using h);refine⟨_,zc hc (i:=4) rfl,biE (fun h4=>?_) fun h4=>?_⟩
     ·have h4:(!decide ((c.kids.length:Int)=1))=true:=h4;have h4:¬ (c.kids.length:Int)=1:=(by simpa using h4);exact⟨rb (by rw [e,Uh (by omega)];simp),rfl⟩
     ·have h4:(!decide ((c.kids.length:Int)=1))=false:=h4;have h4:(c.kids.length:Int)=1:=(by simpa using h4);exact⟨(),(cvE rfl rfl),.inr ⟨h5,h,by omega⟩,rfl⟩
   have h5:¬ c.kind=5:=dF ((u8d c.kind 5).symm.trans h5);exact⟨rb (by rw [zal,Gn h0,Gn h1,Gn h2,Gn h34,Gn h5]),rfl⟩
  rintro _ _ ⟨ha,rfl⟩;rw [zk7 ha];refine⟨_,zc hc (i:=4) rfl,?_⟩;obtain⟨hn,b1,o1,hp,hks⟩:=hk.inv;refine⟨Nat,fun k=>⟨[(0,.pointer (some ⟨b,o,none⟩)),(1,i64 threads),(2,i64 locs),(3,i64 (d+1:Nat)),(124,i64 c.kids.length),(125,i64 (k:Nat))],[]⟩,fun k X=>k<=c.kids.length/\(∀ x∈c.kids.take k,jE threads locs d x=true)/\w=X,fun k=>c.kids.length-k,0,
   (cvE rfl rfl),⟨UZ _,by simp,rfl⟩,?_⟩
  rintro k _ ⟨hk,hall,rfl⟩;dsimp only at hk hall ⊢;refine biE (fun hc2=>?_) fun hc2=>?_
  ·have hc2:(k:Int)<(c.kids.length:Int):=dT hc2;have hkl:k<c.kids.length:=by omega
   rcases hp with hp | rfl
   ·omega
   obtain⟨q,cq,hb1,hq,hkq⟩:=hks k hkl;refine⟨_,zc hc (i:=4) rfl,k,rfl,hkl,(d:Int),(ze (by omega)).trans (by omega),cmo (ih c.kids[k] b1 (o1+k*5) q cq (by omega) hb1 hq hkq) ?_⟩;rintro e _ ⟨rfl,rfl⟩;refine biE (fun h=>?_) fun h=>?_
   ·have h:(!jE threads locs d c.kids[k])=true:=h;refine⟨rb ?_,rfl⟩;symm;rw [KN];exact⟨c.kids[k],gM _,by simpa using h⟩
   ·have h:(!jE threads locs d c.kids[k])=false:=h;refine⟨_,(ze (by omega)).trans rfl,k+1,(cvE rfl rfl),⟨hkl,?_,rfl⟩,zdc (by omega)⟩;rw [tsg hkl];intro x hx;rcases QS.1 hx with hx | hx
    ·exact hall x hx
    ·simp only [KB] at hx;rw [hx];simpa using h
  ·have hc2:¬ (k:Int)<(c.kids.length:Int):=dF hc2;obtain rfl:k=c.kids.length:=by omega
   rw [Qx] at hall;exact⟨rb (Qk.2 hall).symm,rfl⟩
theorem zsb {B threads locs cap:Nat} {p:OA} {c:Cnd} {w:Wd} (hB:B<=w.heap.size) (hk:KidsV B w p c.kids) :
  CB 70 #[.agg (jO c p cap).toArray,i64 threads,i64 locs] w (.bool (jE threads locs 20 c)):=by
 refine zH 10 [.agg (jO c p cap).toArray,i64 threads,i64 locs] Tryz.func70 ?_;have hb:Bw w (w.alloc (.cells (jO c p cap).toArray 27)):=zba w _;have hn:=zy w (.cells (jO c p cap).toArray 27);refine cmo (zj0 (B:=w.heap.size+1) (by rw [wz];omega) 20 c w.heap.size 0 p cap (by omega) (by omega) (za hn) ((hk.kept (hb.mono hB)).wider (by omega))) ?_;rintro e _ ⟨rfl,rfl⟩;exact⟨rfl,hb⟩
theorem zjG {g:Nat} {p:Prg} {p1 p2 p3 p4:OA} {c1 c2 c3 c4 B:Nat} {w:Wd} (hc:zx w ⟨g,0,none⟩ (qo p p1 c1 p2 c2 p3 c3 p4 c4)) (hg:g<w.heap.size) (h1:RowB zjB B w p1 p.locs) (hB:B<=w.heap.size) (hcap:p.locs.length<=c1) (hl:PrgLen p) :
  CB 62 #[At0 g] w (.bool (zdt p)):=by
 refine jf 56 [At0 g] (.s .p (.c .p .p)) Tryz.func62 ?_;have hbd:Bw w w.drew:=(Gb _ w).drew;have hcd:zx w.drew ⟨g,0,none⟩ (qo p p1 c1 p2 c2 p3 c3 p4 c4):=zm hbd hc;have h1d:SlR zjB w.drew p1 p.locs:=(h1.below (hbd.mono hB)).slr (UM hB hbd.size);have hln:=hl.locs;refine⟨Unit,fun _=>⟨[(0,At0 g)],[]⟩,fun _ X=>(1<=p.locs.length/\p.locs.length<=6/\p.init.length=p.locs.length)/\X=w.drew,?_,?_⟩
 ·refine DrawE.ord [] [0,1,2,3,4,5,6,7,8,9,10,11,12,13,14,15,16,17,18,19,20,21,22,23,24,25,26] (by kernel_rfl) ⟨_,zc hcd (i:=1) rfl,biE (fun ha=>?_) fun ha=>?_⟩
  ·have ha:(p.locs.length:Int)<1:=dT ha;exact brT (brT ⟨rb (by unfold zdt;rw [Uh (by omega)];rfl),hbd⟩)
  ·have ha:¬ (p.locs.length:Int)<1:=dF ha;refine⟨_,zc hcd (i:=1) rfl,biE (fun hd=>?_) fun hd=>?_⟩
   ·have hd:(6:Int)<(p.locs.length:Int):=dT hd;exact brT ⟨rb (by unfold zdt;rw [Uh (p:=p.locs.length<=6) (by omega)];simp),hbd⟩
   ·have hd:¬ (6:Int)<(p.locs.length:Int):=dF hd;refine⟨_,zc hcd (i:=2) rfl,_,zc hcd (i:=1) rfl,biE (fun he=>?_) fun he=>?_⟩
    ·have he:(!decide ((p.init.length:Int)=(p.locs.length:Int)))=true:=he;have he:¬ (p.init.length:Int)=(p.locs.length:Int):=(by simpa using he);exact⟨rb (by unfold zdt;rw [Uh (p:=p.init.length=p.locs.length) (by omega)];simp),hbd⟩
    ·have he:(!decide ((p.init.length:Int)=(p.locs.length:Int)))=false:=he;have he:(p.init.length:Int)=(p.locs.length:Int):=(by simpa using he);exact⟨(),(cvE rfl rfl),⟨by omega,by omega,by omega⟩,rfl⟩
 rintro _ _ ⟨⟨l1,l6,li⟩,rfl⟩;have hdef:zdt p=zdG [] p.locs:=by unfold zdt;rw [Us l1,Us l6,Us li];rfl
 rw [hdef];refine⟨_,zc hcd (i:=1) rfl,?_⟩;refine⟨Nat,fun k=>⟨[(0,At0 g),(35,.slice p1 p.locs.length c1),(36,i64 p.locs.length),(37,i64 (k:Nat))],[]⟩,fun k X=>k<=p.locs.length/\zdG (p.locs.take k) (p.locs.drop k)=zdG [] p.locs/\X=w.drew,fun k=>p.locs.length-k,0,
  (cvE rfl rfl),⟨UZ _,rfl,rfl⟩,?_⟩
 rintro k _ ⟨hk,hna,rfl⟩;dsimp only at hk hna ⊢;refine biE (fun hc2=>?_) fun hc2=>?_
 ·have hc2:(k:Int)<(p.locs.length:Int):=dT hc2;have hkl:k<p.locs.length:=by omega
  obtain⟨b,o,rfl,hb,hat⟩:=h1d.at hkl;have hbk:Bw w w.drew:=hbd;refine⟨k,rfl,hkl,_,zc (hat k hkl) (i:=0) rfl,?_⟩;have hs:p.locs[k].length<=140737488351232:=hl.loc _ (gM _);have hstep:zdG [] p.locs=(zed p.locs[k]&&(!((p.locs.take k).any fun q=>decide (q=p.locs[k]))&&zdG (p.locs.take (k+1)) (p.locs.drop (k+1)))):=by
   rw [<- hna,Jq hkl,tsg hkl];rfl
  refine cmo (zr3 p.locs[k] hs _) ?_;rintro e _ ⟨rfl,rfl⟩;refine biE (fun h=>?_) fun h=>?_
  ·have h:(!zed p.locs[k])=true:=h;have h:zed p.locs[k]=false:=by simpa using h
   exact brT ⟨rb (by rw [hstep,h];rfl),hbd⟩
  ·have h:(!zed p.locs[k])=false:=h;have h:zed p.locs[k]=true:=by simpa using h
   refine⟨_,zc hcd (i:=1) rfl,k,rfl,by omega,?_⟩;have hsub:SlR zjB w.drew (je (some ⟨b,o,none⟩) c1 0 1) (p.locs.take k):=SlR.sub h1d (lo:=0) (hi:=k) (UZ _) (by omega) hcap;have htl:(p.locs.take k).length=k:=by rw [Qv];omega
   have hcn:=zln (je (some ⟨b,o,none⟩) c1 0 1) (c1-0) (p.locs.take k) p.locs[k] w.drew hsub (by omega);rw [htl] at hcn;refine cmo hcn ?_;rintro e _ ⟨rfl,rfl⟩;refine biE (fun h5=>?_) fun h5=>?_
   ·have h5:((p.locs.take k).any fun q=>decide (q=p.locs[k]))=true:=h5;exact⟨rb (by rw [hstep,h5];simp),hbd⟩
   ·have h5:((p.locs.take k).any fun q=>decide (q=p.locs[k]))=false:=h5;exact⟨_,(ze (by omega)).trans rfl,k+1,(cvE rfl rfl),⟨hkl,by rw [hstep,h,h5];rfl,rfl⟩,zdc (by omega)⟩
 ·have hc2:¬ (k:Int)<(p.locs.length:Int):=dF hc2;obtain rfl:k=p.locs.length:=by omega
  rw [Qn] at hna;exact⟨rb hna,hbd⟩
end Go.Proofs.YtpalcnbhkigagaaGreatDoor
