/- Contracts of functions, and plain facts, for the law that the last text of this claim proves. -/
import Derived.Test.YtpalcnbhkigagaaGreatDoorE4
import Derived.Test.YtpalcnbhkigagaaGreatDoorE2
import Derived.Test.YtpalcnbhkigagaaGreatDoorE3
import Derived.Sort.AssemblyPlain
set_option linter.unusedSimpArgs false
set_option linter.unusedVariables false
namespace Go.Proofs.YtpalcnbhkigagaaGreatDoor
open Go.Vc Go.RowKit Go.Sei
theorem zjI {locs:Nat}:∀ (ev:List Ev) (i:Nat) (t:Int) (n:Nat),zbz locs i ev t n=true->∀ j,i+j<locs->j<ev.length->∃ v,ev.getD j ev0=⟨-1,2,UInt8.ofNat (i+j),v,0,0,0⟩
 | [],_,_,_,_,_,_,h=>by simp at h
 | e::ev,i,t,n,h,j,hj,hl=>by
  unfold zbz at h;rw [Gs (by omega:i<locs)] at h;by_cases he:e=⟨-1,2,UInt8.ofNat i,e.v,0,0,0⟩
  ·rw [Gs he] at h
   cases j with
   | zero=>exact⟨e.v,by rw [UO];exact he⟩
   | succ j =>
    obtain⟨v,hv⟩:=zjI ev (i+1) t n h j (by omega) (by simpa using hl);exact⟨v,by rw [show i+(j+1)=i+1+j by omega];exact hv⟩
  ·rw [Gr he] at h;cases h
theorem zol (ev:List Ev):qT ev<=ev.length:=by
 unfold qT
 induction ev with
 | nil=>exact UZ _
 | cons e ev ih =>
  rw [Ks]
  split
  ·rw [Qw,Qw];omega
  ·exact Gc _
theorem znc {x:ExD} {locs:Nat} (h:jk x.ev locs=true) (hl:locs<=x.ev.length) (h6:locs<=6):∀ l,l<locs->qb x l≠[]:=by
 intro l hll he;obtain⟨v,hv⟩:=zjI x.ev 0 0 0 h l (by omega) (by omega);have:l∈qb x l:=by
  unfold qb;rw [QW,Ur];refine⟨by omega,?_⟩;have h2:evA x l=⟨-1,2,UInt8.ofNat (0+l),v,0,0,0⟩:=hv;rw [h2,bAT,dE,dE];refine⟨rfl,?_⟩;show (UInt8.ofNat (0+l)).toNat=l;rw [UU,KL];exact QG (by omega)
 rw [he] at this
 cases this
abbrev zcy (x:ExD):List RelD:=[x.po,x.rf,x.co,x.dt,x.ct,x.rm]
theorem zpV (x:ExD) (q:OA) (c:Nat) {i:Nat} (hi:i<6):((exC x q c).drop (1+49*i)).take 49=zi ((zcy x).getD i x.po):=by
 have g:∀ {A T:List Value} {o:Nat} {r:RelD},A.length=o->exC x q c=A++(zi r++T)->((exC x q c).drop o).take 49=zi r:=fun {A T o r} hA hE=>by
  rw [hE,<- hA,Uo,Jh (by rw [zk];decide),JI (by rw [zk];decide)]
 match i,hi with
 | 0,_=>obtain⟨A,T,hA,hE⟩:=zos x q c [];exact g hA (by rw [<- hE,QN];rfl)
 | 1,_=>obtain⟨A,T,hA,hE⟩:=zqE x q c [];exact g hA (by rw [<- hE,QN];rfl)
 | 2,_=>obtain⟨A,T,hA,hE⟩:=zqG x q c [];exact g hA (by rw [<- hE,QN];rfl)
 | 3,_=>obtain⟨A,T,hA,hE⟩:=zou x q c [];exact g hA (by rw [<- hE,QN];rfl)
 | 4,_=>obtain⟨A,T,hA,hE⟩:=zov x q c [];exact g hA (by rw [<- hE,QN];rfl)
 | 5,_=>obtain⟨A,T,hA,hE⟩:=zor x q c [];exact g hA (by rw [<- hE,QN];rfl)
theorem zps (L:Nat) {k:Nat} (hk:k<6):((List.range 6).map (fun i=>Value.pointer (some ⟨L,0+(1+49*i),none⟩)))[k]?=some (.pointer (some ⟨L,0+(1+49*k),none⟩)):=by
 rw [KY,Kl hk];rfl
def okX (x:ExD) (r:RelD):Bool:=decide (r.n=x.ev.length)&&okR r
section
variable {c:Nat} {x:ExD} {q:OA} {w:Wd}
theorem zeL {X:Wd} {b:Nat} (fx:ExH X b x q c) {i:Nat} (hi:i<6):zw X ⟨b,0+(1+49*i),none⟩ (zi ((zcy x).getD i x.po)):=by
 have h:=zG (n:=1+49*i) (m:=49) (za fx);rw [show (exC x q c).toArray.toList=exC x q c from rfl,zpV x q c hi] at h;exact h
theorem ExW.rel (hv:ExW w x q) {i:Nat} (hi:i<6):zZ ((zcy x).getD i x.po).to:=by
 match i,hi with
 | 0,_=>exact hv.po
 | 1,_=>exact hv.rf
 | 2,_=>exact hv.co
 | 3,_=>exact hv.dt
 | 4,_=>exact hv.ct
 | 5,_=>exact hv.rm
theorem zka (hv:ExW w x q) (hT:Tz64M w):CB 14 #[.agg (exC x q c).toArray] w (.bool (zax x)):=by
 refine jf 70 [.agg (exC x q c).toArray] (.c .p (.c .p (.c .p (.c .p (.c .p .p))))) Tryz.func14 ?_;obtain⟨L,hL⟩:=nm (w.heap.size);have hn:=hv.n;refine⟨Unit,fun _=>⟨[(1,At0 L)],[]⟩,fun _ X=>ExH X L x q c/\Bw w X,⟨(),⟨.cons (by rw [hL];rfl) .nil,rfl⟩,by rw [hL];exact zz w _,(zba w _)⟩,?_⟩;rintro _ X ⟨fx,hbX⟩;obtain⟨n,hnn⟩:=nm (qT x.ev);refine⟨Unit,fun _=>⟨[(1,At0 L)],[]⟩,fun _ Y=>X=Y,?_,?_⟩
 ·refine⟨_,zc (za fx) (i:=0) rfl,biE (fun h=>?_) fun _=>?_⟩
  ·have h:(48:Int)<(x.ev.length:Nat):=dT h;omega
  exact⟨(),(cvE rfl rfl),rfl⟩
 rintro _ _ rfl;refine⟨Unit,fun _=>⟨[(1,At0 L),(3,i64 (n:Nat))],[]⟩,fun _ Y=>Bw X Y,?_,?_⟩
 ·refine⟨_,zc (za fx) (i:=0) rfl,cmo (zkL (hv.below hbX).ev (by omega)) ?_⟩;rintro e Y ⟨rfl,hbY⟩;rw [<- hnn];exact⟨(),(cvE rfl rfl),hbY⟩
 rintro _ Y hbY;have hvX:=hv.below hbX;have hnl:n<=x.ev.length:=by rw [hnn];exact zol _
 have hbwY:=zst hbX hbY;have hr0:decide (x.ev.length<=48)=true:=Uv (by omega);have no:∀ {Z:Wd},Bw w Z->zax x=false->(Ending.returned (.bool false)=Ending.returned (.bool (zax x))/\Bw w Z):=fun {Z} hb h=>⟨rb h.symm,hb⟩;refine⟨Unit,fun _=>⟨[(1,At0 L),(3,i64 (n:Nat))],[]⟩,fun _ Z=>jk x.ev n=true/\(1<=n/\n<=6)/\ExH Z L x q c/\Bw w Z,?_,?_⟩
 ·refine biE (fun h1=>?_) fun h1=>?_
  ·have h1:(n:Int)<1:=dT h1;refine brT (brT (no hbwY ?_));unfold zax;rw [<- hnn,Uk (by omega:¬ 1<=n),Um,Ul]
  have h1:¬ (n:Int)<1:=dF h1;refine biE (fun h2=>?_) fun h2=>?_
  ·have h2:(6:Int)<(n:Int):=dT h2;refine brT (no hbwY ?_);unfold zax;rw [<- hnn,Uk (by omega:¬ n<=6),Um,Ul,Ul]
  have h2:¬ (6:Int)<(n:Int):=dF h2;have hn1:decide (1<=n)=true:=Uv (by omega);have hn6:decide (n<=6)=true:=Uv (by omega);have fY:=zb hbY fx;refine⟨_,zc (za fY) (i:=0) rfl,cmo (zg9 (locs:=n) (hvX.below hbY).ev (by omega) (by omega)) ?_⟩;rintro e Z ⟨rfl,hbZ⟩;have hbwZ:=zst hbwY hbZ;refine biE (fun h3=>?_) fun h3=>?_
  ·have h3:jk x.ev n=false:=by
    have h3:(!jk x.ev n)=true:=h3;simpa using h3
   refine no hbwZ ?_;unfold zax;rw [<- hnn,h3,Um,Ul,Ul,Ul]
  have h3:jk x.ev n=true:=by
   have h3:(!jk x.ev n)=false:=h3;simpa using h3
  exact⟨(),(cvE rfl rfl),h3,by omega,zb hbZ fY,hbwZ⟩
 rintro _ Z ⟨h3,⟨h1,h2⟩,fZ,hbwZ⟩;clear fx hbX hbY hbwY hvX;have hn1:decide (1<=n)=true:=Uv h1;have hn6:decide (n<=6)=true:=Uv h2;have hright:zax x=(zbi x&&(jp x.po (poR x.ev)&&(zad x&&(zah x n&&j8 x)))):=by
  unfold zax;rw [<- hnn,hr0,hn1,hn6,h3];rfl
 have hrels:zbi x=(zcy x).all (okX x):=rfl;refine⟨Unit,fun _=>⟨[(1,At0 L),(3,i64 (n:Nat))],[]⟩,fun _ U=>zbi x=true/\ExH U L x q c/\Bw w U,?_,?_⟩
 ·refine⟨⟨by decide,by decide,rfl⟩,(List.range 6).map (fun i=>Value.pointer (some ⟨L,0+(1+49*i),none⟩)),rfl,?_⟩;obtain⟨g,hg⟩:=nm (Z.heap.size);refine⟨Nat,fun k=>⟨[(1,At0 L),(3,i64 (n:Nat)),(32,.slice (some ⟨g,0,none⟩) 6 6),(33,i64 6),(34,i64 (k:Nat))],[]⟩,fun k U=>k<=6/\((zcy x).take k).all (okX x)=true/\U.heap[g]?=some (.cells ((List.range 6).map (fun i=>Value.pointer (some ⟨L,0+(1+49*i),none⟩))).toArray 95 (0,0))/\ExH U L x q c/\Bw w U,fun k=>6-k,0,
   ⟨.cons rfl (.cons rfl (.cons (by rw [hg];rfl) (.cons rfl (.cons rfl .nil)))),rfl⟩,⟨Gc _,rfl,by rw [hg];exact zz Z _,qH _ fZ,hbwZ.alloc hbwZ.size _⟩,?_⟩
  clear hg fZ hbwZ;rintro k U ⟨hk,hall,fg,fU,hbU⟩;dsimp only;refine biE (fun hc=>?_) fun hc=>?_
  ·have hc:(k:Int)<6:=dT hc;have hk6:k<6:=by omega
   obtain⟨r,hr⟩:=nm ((zcy x).getD k x.po);have hkl:k<(zcy x).length:=hk6;have htk:(zcy x).take (k+1)=(zcy x).take k++[r]:=by
    rw [tsg hkl,hr,gDe,gE hkl];rfl
   have hrw:zZ r.to:=by rw [hr];exact hv.rel hk6
   have hcel:zw U ⟨L,0+(1+49*k),none⟩ (zi r):=by rw [hr];exact zeL fU hk6
   have dU:Bw U U.drew:=(Ge _ _).drew;have hrm:r∈zcy x:=by
    rw [hr,gDe,gE hkl];exact gM hkl
   have bad:∀ {Z:Wd},Bw w Z->okX x r=false->(Ending.returned (.bool false)=Ending.returned (.bool (zax x))/\Bw w Z):=fun {Z} hb h=>no hb (by
    have:zbi x=false:=by
     rw [hrels,KR];exact⟨r,hrm,by rw [h];decide⟩
    rw [hright,this];rfl)
   refine⟨k,rfl,hk6,?_⟩;refine⟨.pointer (some ⟨L,0+(1+49*k),none⟩),by
    have:=zc (za fg) (i:=k*1) (v := .pointer (some ⟨L,0+(1+49*k),none⟩)) (by
     rw [Ga];exact zps L hk6)
    exact this,?_⟩
   refine DrawE.ord [] [0,1,2,3,4,5,6,7,8,9,10,11,12,13,14] (by kernel_rfl) ⟨i64 r.n,zc (zm dU hcel) (i:=0) rfl,_,zc (za (hdr fU)) (i:=0) rfl,biE (fun h4=>?_) fun h4=>?_⟩
   ·have h4:(!decide (r.n=(x.ev.length:Int)))=true:=h4;have h4:¬ r.n=(x.ev.length:Int):=(by simpa using h4);exact brT (bad ((zst hbU dU)) (by unfold okX;rw [Uk h4];rfl))
   have h4:(!decide (r.n=(x.ev.length:Int)))=false:=h4;have h4:r.n=(x.ev.length:Int):=by simpa using h4
   refine⟨zi r,zk _,zm dU hcel,hlt (hdr fU),cmo (zbH hrw) ?_⟩;rintro e V ⟨rfl,hbV⟩;refine⟨hbV,?_⟩;have hbV2:=hbU.trans ((dU.trans hbV).mono hbU.size);refine biE (fun h5=>?_) fun h5=>?_
   ·have h5:okR r=false:=by
     have h5:(!okR r)=true:=h5;simpa using h5
    exact bad hbV2 (by unfold okX;rw [h5,Ul])
   have h5:okR r=true:=by
    have h5:(!okR r)=false:=h5;simpa using h5
   refine nxI (by omega) ⟨k+1,(cvE rfl rfl),⟨hk6,?_,zb (dU.trans hbV) fg,zb (dU.trans hbV) fU,hbV2⟩,zdc (by omega)⟩;rw [htk,QM,hall];show (true&&(okX x r&&true))=true;unfold okX;rw [Uv h4,h5];rfl
  ·have hc:¬ (k:Int)<6:=dF hc;obtain rfl:k=6:=by omega
   exact⟨(),(cvE rfl rfl),hall,fU,hbU⟩
 rintro _ U ⟨hrr,fU,hbU⟩;rw [hrr,UB] at hright;have hall:∀ r∈zcy x,r.n=x.ev.length/\okR r=true:=fun r hr=>by
  rw [hrels,Qn] at hrr;have:=hrr r hr;unfold okX at this;rw [bAT,dE] at this;exact this
 have hrf:=hall x.rf (by simp);have hrm:=hall x.rm (by simp);have hvU:=hv.below hbU;have dU:Bw U U.drew:=(Ge _ _).drew;have hvD:=hvU.below dU;have hbD:=zst hbU dU;refine DrawE.ord [] [0,1,2,3,4,5,6,7,8,9,10,11,12,13,14,15,16] (by kernel_rfl) ⟨zi x.po,zk _,zeL (hdr fU) (i:=0) (by decide),hlt (hdr fU),_,zc (za (hdr fU)) (i:=0) rfl,cmo (zcM hvD.ev (by omega)) ?_⟩;rintro e V ⟨rfl,hbV⟩;refine⟨hbV,?_⟩;have hbV2:=zst hbD hbV;have fV:=zb hbV (hdr fU);have hvV:=hvD.below hbV;refine⟨_,fun w=>zbd _ _ x.po (poR x.ev) w,biE (fun h4=>?_) fun h4=>?_⟩
 ·have h4:jp x.po (poR x.ev)=true:=h4;rw [h4,UB] at hright;refine cmo (zmz fV hvV hrf.1 hrf.2 (hT.below hbV2)) ?_;rintro e T ⟨rfl,hbT⟩;refine⟨hbT,?_⟩;have hbT2:=zst hbV2 hbT;refine biE (fun h5=>?_) fun h5=>?_
  ·have h5:zad x=true:=h5;rw [h5,UB] at hright;refine cmo (zmZ (locs:=n) (zb hbT fV) (hvV.below hbT) (by omega) (znc h3 hnl (by omega)) (hT.below hbT2)) ?_;rintro e R ⟨rfl,hbR⟩;refine⟨hbR,?_⟩;have hbR2:=zst hbT2 hbR;refine biE (fun h6=>?_) fun h6=>?_
   ·have h6:zah x n=true:=h6;rw [h6,UB] at hright;refine cmo (zkT (zb hbR (zb hbT fV)) ((hvV.below hbT).below hbR) hrm.1 hrm.2 (hT.below hbR2)) ?_;rintro e Q ⟨rfl,hbQ⟩;exact⟨hbQ,rb hright.symm,(zst hbR2 hbQ)⟩
   ·have h6:zah x n=false:=h6;rw [h6,Um] at hright;exact⟨rb hright.symm,hbR2⟩
  ·have h5:zad x=false:=h5;rw [h5,Um] at hright;exact brF ⟨rb hright.symm,hbT2⟩
 ·have h4:jp x.po (poR x.ev)=false:=h4;rw [h4,Um] at hright;exact brF (brF ⟨rb hright.symm,hbV2⟩)
theorem zo5 (hv:ExV w x q) (hT:Tz64M w):CB 14 #[.agg (exC x q c).toArray] w (.bool (zax x)):=zka hv.w hT
end
section
variable {b c:Nat} {x:ExD} {q:OA}
theorem zbc {X:Wd} (fx:zw X ⟨b,0,none⟩ (exC x q c)):X.cell? ⟨b,0+0,none⟩=some (.slice q x.ev.length c):=zc fx (i:=0) rfl
end
section
variable {b c:Nat} {x:ExD} {q:OA}
theorem zaI {X:Wd} (fx:ExH X b x q c) {i:Nat} (hi:i<6) {o:Nat} (ho:o=1+49*i):zw X ⟨b,0+o,none⟩ (zi ((zcy x).getD i x.po)):=by
 rw [ho];exact zeL fx hi
end
theorem zc3 {r:RelD} (h:ziS r=true):zZ r.to:=by
 unfold ziS at h;rw [Qn] at h;exact fun i hi=>dT (h i (Ur.2 hi))
theorem zfI {x:ExD} {q:OA} {X:Wd} (hv:SlR evE X q x.ev) (h:0<x.ev.length):∃ bq oq,q=some ⟨bq,oq,none⟩/\bq<X.heap.size/\∀ i,i<x.ev.length->zw X ⟨bq,oq+i*7,none⟩ (evE.enc (evA x i)):=by
 obtain⟨b,o,hq,hb,hat⟩:=hv.at h;refine⟨b,o,hq,hb,fun i hi=>?_⟩;have:=hat i hi;unfold evA;rw [gDe,gE hi];exact this
theorem zsa {X:Wd} {b:Nat} {x:ExD} {q:OA} {c:Nat} (fx:ExH X b x q c):zw X ⟨b,0+1,none⟩ (zi x.po):=zaI fx (i:=0) (by decide) rfl
theorem zr9 {X:Wd} {b:Nat} {x:ExD} {q:OA} {c:Nat} (fx:ExH X b x q c):zw X ⟨b,0+50,none⟩ (zi x.rf):=zaI fx (i:=1) (by decide) rfl
theorem zpr {X:Wd} {b:Nat} {x:ExD} {q:OA} {c:Nat} (fx:ExH X b x q c):zw X ⟨b,0+99,none⟩ (zi x.co):=zaI fx (i:=2) (by decide) rfl
theorem zsb {X:Wd} {b:Nat} {x:ExD} {q:OA} {c:Nat} (fx:ExH X b x q c):zw X ⟨b,0+148,none⟩ (zi x.dt):=zaI fx (i:=3) (by decide) rfl
theorem zsc {X:Wd} {b:Nat} {x:ExD} {q:OA} {c:Nat} (fx:ExH X b x q c):zw X ⟨b,0+197,none⟩ (zi x.ct):=zaI fx (i:=4) (by decide) rfl
theorem zr8 {X:Wd} {b:Nat} {x:ExD} {q:OA} {c:Nat} (fx:ExH X b x q c):zw X ⟨b,0+246,none⟩ (zi x.rm):=zaI fx (i:=5) (by decide) rfl
theorem zre {p:Bool} (h:(!p)=true):p=false:=by simpa using h
theorem zrd {p:Bool} (h:(!p)=false):p=true:=by simpa using h
theorem zpU {X:Wd} {b:Nat} {x:ExD} {q:OA} {c l:Nat} (fx:zw X ⟨b,0,none⟩ (exC x q c)) (hl:l<6):X.cell? ⟨b,0+295+32+l*1,none⟩=some (u8 (x.mem l)):=by
 have h:=zlV (x:=x) q c;have h2:(exC x q c)[327+l]?=some (u8 (x.mem l)):=by
  have h3:(((exC x q c).drop 327).take 6)[l]?=some (u8 (x.mem l)):=by
   rw [h];unfold seg;rw [KY,Kl hl];rfl
  rw [List.getElem?_take_of_lt hl,KA] at h3;exact h3
 have h4:=zc fx h2;rw [show 0+(327+l)=0+295+32+l*1 by omega] at h4;exact h4
def zrl (x:ExD):Bool:=decide (x.ev.length<=20)&&(ziS x.po&&(ziS x.rf&&(ziS x.co&&(ziS x.dt&&(ziS x.ct&&ziS x.rm)))))
theorem zpQ {X:Wd} {x:ExD} {q:OA} (h:zrl x=true) (he:SlR evE X q x.ev):ExV X x q:=by
 unfold zrl at h;simp only [bAT,dE] at h;obtain⟨h1,h2,h3,h4,h5,h6,h7⟩:=h;exact⟨he,h1,zc3 h2,zc3 h3,zc3 h4,zc3 h5,zc3 h6,zc3 h7⟩
def zbx (x:ExD):List Value:=seg 32 (fun i=>u8 (x.regs i))++seg 6 (fun i=>u8 (x.mem i))
theorem zcU (x:ExD):(zbx x).length=38:=by unfold zbx;rw [lap,zo,zo]
def zlT (x y:ExD):Bool:=(List.range 32).all (fun i=>decide (x.regs i=y.regs i))&&(List.range 6).all (fun i=>decide (x.mem i=y.mem i))
theorem zeJ {m n:Nat} {f:Nat->UInt8} {i j:Nat} (hi:i<m) (h:m*n<=1000) (hj:j<n):zV (zV (seg (m*n) (fun i=>u8 (f i))) (i*n) n) (j*1) 1=[u8 (f (i*n+j))]:=by
 have hlt:i*n+j<m*n:=by
  have:(i+1)*n<=m*n:=Kg n hi;rw [UT] at this;omega
 apply KU;intro k;unfold zV;rw [Ga]
 cases k with
 | zero =>
  rw [List.getElem?_take_of_lt (by decide),KA,UO,List.getElem?_take_of_lt hj,KA,zaG _ hlt];rfl
 | succ k =>
  rw [JL (by rw [Qy];omega),JL (by simp)]
theorem zr6:∃ G,TyEq PG 53 true 38 4 G/\∀ x:ExD,G (zbx x):=by
 have r8:TyEq PG 49 true 8 2 _ := .array (m:=8) (by decide) Tryz.underlying49 (fun w=>Tryz.isAgg49 w) (qF (by kernel_rfl) (by kernel_rfl)).1 (by kernel_rfl) tU8;have r32:TyEq PG 50 true 32 3 _ := .array (m:=4) (by decide) Tryz.underlying50 (fun w=>Tryz.isAgg50 w) (qF (by kernel_rfl) (by kernel_rfl)).1 (by kernel_rfl) r8;have r6:TyEq PG 51 true 6 2 _ := .array (m:=6) (by decide) Tryz.underlying51 (fun w=>Tryz.isAgg51 w) (qF (by kernel_rfl) (by kernel_rfl)).1 (by kernel_rfl) tU8;refine⟨_,.struct (uf Tryz.underlying53).1 (by kernel_rfl) (fun w=>Tryz.isAgg53 w) (qF (by kernel_rfl) (by kernel_rfl)).1 (by kernel_rfl)
  (by rw [(uf Tryz.underlying53).2];exact .cons (by decide) rfl r32 (.cons (by decide) rfl (r6.up 1) .nil)),fun x=>?_⟩
 have e0:zV (zbx x) 0 32=seg (4*8) fun i=>u8 (x.regs i):=by
  unfold zbx zV;rw [Up,Jh (by rw [zo];decide),JI (by rw [zo];decide)]
 have e1:zV (zbx x) 32 6=seg (1*6) fun i=>u8 (x.mem i):=by
  unfold zbx zV;rw [Jf (by rw [zo];decide),JD (by rw [zo];decide),QX,JI (by rw [zo];decide)]
 refine⟨?_,?_,trivial⟩
 ·show ∀ i,i<4->∀ j,j<8->zqt .u8 (zV (zV (zV (zbx x) 0 32) (i*8) 8) (j*1) 1);intro i hi j hj;rw [e0,zeJ hi (by decide) hj];exact⟨_,rfl⟩
 ·show ∀ j,j<6->zqt .u8 (zV (zV (zbx x) 32 6) (j*1) 1);intro j hj;rw [e1];have h:=zeJ (m:=1) (n:=6) (f:=x.mem) (i:=0) (j:=j) (by decide) (by decide) hj;have h2:zV (seg (1*6) fun i=>u8 (x.mem i)) (0*6) 6=seg (1*6) fun i=>u8 (x.mem i):=by
   unfold zV;rw [UV,Up,JI (by rw [zo];decide)]
  rw [h2] at h;rw [h];exact⟨_,rfl⟩
theorem zdX {n:Nat} {f g:Nat->UInt8}:seg n (fun i=>u8 (f i))=seg n (fun i=>u8 (g i))↔∀ i,i<n->f i=g i:=by
 constructor
 ·intro h i hi;have h1:=zaG (n:=n) (fun i=>u8 (f i)) hi;rw [h,zaG (n:=n) (fun i=>u8 (g i)) hi] at h1;have h2:=Ui h1;unfold u8 at h2;injection h2 with _ h3;exact (jh.1 h3).symm
 ·intro h;unfold seg;exact Ko fun i hi=>by rw [h i (Ur.1 hi)]
theorem zlS {x y:ExD}:zbx x=zbx y↔zlT x y=true:=by
 unfold zlT;rw [bAT,Qn,Qn];have hl:(seg 32 fun i=>u8 (x.regs i)).length=(seg 32 fun i=>u8 (y.regs i)).length:=by rw [zo,zo]
 constructor
 ·intro h;unfold zbx at h;obtain⟨h1,h2⟩:=List.append_inj h hl;exact⟨fun i hi=>Uv (zdX.1 h1 i (Ur.1 hi)),fun i hi=>Uv (zdX.1 h2 i (Ur.1 hi))⟩
 ·rintro⟨h1,h2⟩;unfold zbx;rw [zdX.2 fun i hi=>dT (h1 i (Ur.2 hi)),zdX.2 fun i hi=>dT (h2 i (Ur.2 hi))]
theorem zpZ (u v:Operand) (x y:ExD) (w:Wd):(do eqGuard .eql 53 u v (.agg (zbx x).toArray) (.agg (zbx y).toArray);binOp .eql 53 (.agg (zbx x).toArray) (.agg (zbx y).toArray)).run PG w = .ok (.bool (zlT x y)) w:=by
 obtain⟨G,h1,h2⟩:=zr6;have:=ziy h1 9996 rfl (by kernel_rfl) (zcU x) (zcU y) (h2 x) (h2 y) u v w;rw [this,zce zlS,Kj]
theorem zkQ {X:Wd} {b:Nat} {x:ExD} {q:OA} {c:Nat} (fx:ExH X b x q c):zw X ⟨b,0+295,none⟩ (zbx x):=by
 have h:=zG (n:=295) (m:=38) (za fx);have e:((exC x q c).toArray.toList.drop 295).take 38=zbx x:=by
  show ((exC x q c).drop 295).take 38=_;have e2:exC x q c=(.slice q x.ev.length c::(zi x.po++(zi x.rf++(zi x.co++(zi x.dt++(zi x.ct++zi x.rm))))))++zbx x:=by
   unfold exC zbx;simp only [KT,Qp]
  have e3:(Value.slice q x.ev.length c::(zi x.po++(zi x.rf++(zi x.co++(zi x.dt++(zi x.ct++zi x.rm)))))).length=295:=by simp only [Qw,lap,zk]
  rw [e2,<- e3,Uo,JI (by rw [zcU];decide)]
 rw [e] at h;exact h
def zcH (x y:ExD):Bool:=jp x.po y.po&&(jp x.rf y.rf&&(jp x.co y.co&&(jp x.dt y.dt&&(jp x.ct y.ct&&(jp x.rm y.rm&&zlT x y)))))
def zbm (x y:ExD):Bool:=decide (x.ev.length=y.ev.length)&&((List.range x.ev.length).all (fun i=>decide (evA x i=evA y i))&&zcH x y)
theorem zb1 (a:RelD):jp a a=true:=zht.1 rfl
theorem zmt (x:ExD):zbm x x=true:=by
 unfold zbm zcH;rw [zb1,zb1,zb1,zb1,zb1,zb1,zlS.1 rfl];simp
theorem znP {n i:Nat} {f:Nat->Bool} (hi:i<n) (h:f i=false):(List.range n).all f=false:=by
 rw [KR];exact⟨i,Ur.2 hi,by rw [h];decide⟩
theorem zmC {n:Nat} {f:Nat->Bool} (h:∀ i,i<n->f i=true):(List.range n).all f=true:=by
 rw [Qn];exact fun i hi=>h i (Ur.1 hi)
theorem zkx {k:Nat} {f:Nat->Bool} (h:∀ i,i<k->f i=true) (hk:f k=true):∀ i,i<k+1->f i=true:=fun i hi=>by
 by_cases e:i=k
 ·rw [e];exact hk
 ·exact h i (by omega)
section
variable {w:Wd} {c d:Nat} {x y:ExD} {q r:OA}
theorem ziK (hx0:SlR evE w q x.ev) (hy0:SlR evE w r y.ev) (hl:x.ev.length<4611686018427387904):CB 13 #[.agg (exC x q c).toArray,.agg (exC y r d).toArray] w (.bool (zbm x y)):=by
 refine jf 78 [.agg (exC x q c).toArray,.agg (exC y r d).toArray] (.c .p (.c .p (.c .p .p))) Tryz.func13 ?_;obtain⟨L,hL⟩:=nm (w.heap.size);refine⟨Unit,fun _=>⟨[(2,At0 L),(3,At0 (L+1))],[]⟩,fun _ X=>ExH X L x q c/\ExH X (L+1) y r d/\Bw w X,?_,?_⟩
 ·have s1:=wz w (.cells (exC x q c).toArray 55);have h2:=zz (w.alloc (.cells (exC x q c).toArray 55)) (.cells (exC y r d).toArray 55);rw [s1] at h2;have b1:Bw w (w.alloc (.cells (exC x q c).toArray 55)):=zba w _;exact⟨(),⟨.cons (by rw [hL];rfl) (.cons (by rw [hL,<- s1];rfl) .nil),rfl⟩,by rw [hL];exact qH _ (zz w _),by rw [hL];exact h2,b1.alloc b1.size _⟩
 rintro _ X ⟨fX,fY,hbX⟩;refine⟨Unit,fun _=>⟨[(2,At0 L),(3,At0 (L+1))],[]⟩,fun _ Z=>x.ev.length=y.ev.length/\ExH Z L x q c/\ExH Z (L+1) y r d/\Bw w Z,?_,?_⟩
 ·refine⟨_,zbc (za fX),_,zbc (za fY),biE (fun h1=>?_) fun h1=>?_⟩
  ·have h1:=zre h1;exact⟨rb (by unfold zbm;rw [Uk (fun e=>(dF h1) (by rw [e])),Um]),hbX⟩
  ·have h1:=zrd h1;exact⟨(),(cvE rfl rfl),UC (dT h1),fX,fY,hbX⟩
 clear fX fY hbX;rintro _ X ⟨hlen,fX,fY,hbX⟩;have hs:zbm x y=((List.range x.ev.length).all (fun i=>decide (evA x i=evA y i))&&zcH x y):=by unfold zbm;rw [Uv hlen];rfl
 rw [hs];refine⟨Unit,fun _=>⟨[(2,At0 L),(3,At0 (L+1))],[]⟩,fun _ Z=>(List.range x.ev.length).all (fun i=>decide (evA x i=evA y i))=true/\ExH Z L x q c/\ExH Z (L+1) y r d/\Bw w Z,?_,?_⟩
 ·refine⟨_,zbc (za fX),Nat,fun i=>⟨[(2,At0 L),(3,At0 (L+1)),(15,i64 x.ev.length),(16,i64 (i:Nat))],[]⟩,fun i Z=>i<=x.ev.length/\(∀ j,j<i->decide (evA x j=evA y j)=true)/\ExH Z L x q c/\ExH Z (L+1) y r d/\Bw w Z,fun i=>x.ev.length-i,0,(cvE rfl rfl),⟨Gc _,fun j hj=>by omega,fX,fY,hbX⟩,?_⟩;clear fX fY hbX;rintro i X ⟨hi,hall,fX,fY,hbX⟩;dsimp only;refine biE (fun hc=>?_) fun hc=>?_
  ·have hc:(i:Int)<(x.ev.length:Int):=dT hc;have hin:i<x.ev.length:=by omega
   obtain⟨bx,ox,hqx,hbx,hatx⟩:=zfI hx0 (by omega);obtain⟨by_,oy,hqy,hby,haty⟩:=zfI hy0 (by omega);subst hqx hqy;have hx:bx<w.heap.size/\∀ i,i<x.ev.length->zw w ⟨bx,ox+i*7,none⟩ (evE.enc (evA x i)):=⟨hbx,hatx⟩;have hy:by_<w.heap.size/\∀ i,i<y.ev.length->zw w ⟨by_,oy+i*7,none⟩ (evE.enc (evA y i)):=⟨hby,haty⟩;have dX:Bw X X.drew:=(Ge _ _).drew;refine DrawE.ord [] [0,1,2,3,4,5,6,7,8,9,10] (by kernel_rfl) ?_;replace fX:=zb dX fX;replace fY:=zb dX fY;replace hbX:=zst hbX dX;refine⟨_,zbc (za fX),i,rfl,by omega,?_⟩;refine⟨_,rfl,zm hbX (hx.2 i (by omega)),nL hx.1 hbX.size,_,zbc (za fY),i,rfl,by omega,?_⟩;refine⟨_,rfl,zm hbX (hy.2 i (by omega)),nL hy.1 hbX.size,_,fun w=>zkG _ _ _ _ w,biE (fun h1=>?_) fun h1=>?_⟩
   ·have h1:=zre h1;exact⟨rb (by rw [znP hin h1];rfl),hbX⟩
   ·have h1:=zrd h1;exact nxI (by omega) ⟨i+1,(cvE rfl rfl),⟨hin,zkx hall h1,fX,fY,hbX⟩,zdc (by omega)⟩
  ·have hc:¬ (i:Int)<(x.ev.length:Int):=dF hc;exact⟨(),(cvE rfl rfl),zmC fun j hj=>hall j (by omega),fX,fY,hbX⟩
 clear fX fY hbX;rintro _ X ⟨hev,fX,fY,hbX⟩;rw [hev,UB];unfold zcH;refine⟨_,zk _,zsa fX,hlt fX,_,zk _,zsa fY,hlt fY,_,fun w=>zbd _ _ _ _ w,biE (fun h1=>?_) fun h1=>?_⟩
 ·refine⟨_,zk _,zr9 fX,hlt fX,_,zk _,zr9 fY,hlt fY,_,fun w=>zbd _ _ _ _ w,biE (fun h2=>?_) fun h2=>?_⟩
  ·refine⟨_,zk _,zpr fX,hlt fX,_,zk _,zpr fY,hlt fY,_,fun w=>zbd _ _ _ _ w,biE (fun h3=>?_) fun h3=>?_⟩
   ·refine⟨_,zk _,zsb fX,hlt fX,_,zk _,zsb fY,hlt fY,_,fun w=>zbd _ _ _ _ w,biE (fun h4=>?_) fun h4=>?_⟩
    ·refine⟨_,zk _,zsc fX,hlt fX,_,zk _,zsc fY,hlt fY,_,fun w=>zbd _ _ _ _ w,biE (fun h5=>?_) fun h5=>?_⟩
     ·refine⟨_,zk _,zr8 fX,hlt fX,_,zk _,zr8 fY,hlt fY,_,fun w=>zbd _ _ _ _ w,biE (fun h6=>?_) fun h6=>?_⟩
      ·exact⟨_,zcU _,zkQ fX,hlt fX,_,zcU _,zkQ fY,hlt fY,_,fun w=>zpZ _ _ x y w,rb (by simp [h1,h2,h3,h4,h5,h6]),hbX⟩
      ·exact⟨rb (by simp [h1,h2,h3,h4,h5,h6]),hbX⟩
     ·exact brF ⟨rb (by simp [h1,h2,h3,h4,h5]),hbX⟩
    ·exact brF (brF ⟨rb (by simp [h1,h2,h3,h4]),hbX⟩)
   ·exact brF (brF (brF ⟨rb (by simp [h1,h2,h3]),hbX⟩))
  ·exact brF (brF (brF (brF ⟨rb (by simp [h1,h2]),hbX⟩)))
 ·exact brF (brF (brF (brF (brF ⟨rb (by simp [h1]),hbX⟩))))
end
theorem zbY {x y:UInt8}:decide (((x.toNat:Nat):Int)=((y.toNat:Nat):Int))=decide (x=y):=QJ.2 jh
theorem zpz {x y:UInt8}:decide (((x.toNat:Nat):Int)<((y.toNat:Nat):Int))=decide (x.toNat<y.toNat):=QJ.2 Int.ofNat_lt
theorem zqx (a b:UInt8):IntKind.u8.wrap ((a.toNat:Int)+(b.toNat:Int))=((a+b).toNat:Int):=by
 rw [UInt8.toNat_add];unfold IntKind.wrap;simp only [IntKind.bits,IntKind.signed,Um,Kx,Gn];omega
theorem zrY (a b:UInt8):IntKind.u8.wrap ((a.toNat:Int)-(b.toNat:Int))=((a-b).toNat:Int):=by
 rw [UInt8.toNat_sub];have:=a.toNat_lt;have:=b.toNat_lt;unfold IntKind.wrap;simp only [IntKind.bits,IntKind.signed,Um,Kx,Gn];omega
theorem zrX (a b:UInt8):IntKind.u8.wrap ((BitVec.ofInt IntKind.u8.bits (a.toNat:Int) ^^^ BitVec.ofInt IntKind.u8.bits (b.toNat:Int)).toNat:Int)=((a ^^^ b).toNat:Int):=by
 have e:∀ x:UInt8,(BitVec.ofInt IntKind.u8.bits (x.toNat:Int)).toNat=x.toNat:=fun x=>by
  have:=x.toNat_lt;rw [Kw];simp only [IntKind.bits];omega
 rw [BitVec.toNat_xor,e,e,<- UInt8.toNat_xor];have:=(a ^^^ b).toNat_lt;unfold IntKind.wrap;simp only [IntKind.bits,IntKind.signed,Um,Kx,Gn];omega
structure RunS (R:RunD):Prop where
 d:∀ i,R.deps i<2^32
 c:R.ctl<2^32
 s:∀ i,R.data i<2^32/\R.ctrl i<2^32/\R.att i<2^32
theorem zjo {a b:Nat} (ha:a<2^32) (hb:b<2^32):a|||b<2^32:=Qc ha hb
theorem zlx {n:Nat} (h:n<32):2^n<2^32:=Ki (by decide) h
theorem zeF {f:Nat->Nat} {b:Nat} (h:∀ i,f i<b) {k v:Nat} (hv:v<b):∀ i,upd f k v i<b:=fun i=>by
 by_cases e:i=k
 ·rw [e,zM];exact hv
 ·rw [qp _ _ e];exact h i
theorem RunS.val {R:RunD} (h:RunS R) (r:Bool) (n:UInt8):(qj r n R).2<2^32:=by
 unfold qj
 split
 ·exact h.d _
 ·exact (by decide:0<2^32)
theorem RunS.emit {R:RunD} (h:RunS R) {k a v m:UInt8} {d:Nat} (hd:d<2^32):RunS (jJ R k a v m d) :=
 ⟨h.d,h.c,fun i=>⟨zeF (fun i=>(h.s i).1) hd i,zeF (fun i=>(h.s i).2.1) h.c i,(h.s i).2.2⟩⟩
theorem RunS.set {R:RunD} (h:RunS R) {d v:UInt8} {s:Nat} (hs:s<2^32):RunS (zh6 R d v s):=⟨zeF h.d hs,h.c,h.s⟩
theorem RunS.exch {R:RunD} (h:RunS R) (hm:R.many<32) {x:InsD} {o v:UInt8} {d:Nat} (hd:d<2^32):RunS (zby R x o v d):=by
 have h2:=(h.emit (k:=1) (a:=x.loc) (v:=o) (m:=3) (d:=0) (by decide)).emit (k:=2) (a:=x.loc) (v:=v) (m:=3) hd;exact RunS.set (R:={ jJ (jJ R 1 x.loc o 3 0) 2 x.loc v 3 d with att:=upd (jJ (jJ R 1 x.loc o 3 0) 2 x.loc v 3 d).att (R.many+1) (2^R.many) })
  ⟨h2.d,h2.c,fun i=>⟨(h2.s i).1,(h2.s i).2.1,zeF (fun i=>(h2.s i).2.2) (zlx hm) i⟩⟩ (zlx hm)
section
variable {R:RunD} {b:Nat} {w:Wd} {x:InsD} {v:UInt8}
theorem zkP {o v:UInt8} {d:Nat} (f:jn w b R) (hm:R.many<23) (hd:x.dst.toNat<8):Calls PG 136 #[AtR b,zb8 x,u8 o,u8 v,s32 d] w fun e w' =>
  e = .returned (i64 (R.many+1:Nat))/\jn w' b (zby R x o v d)/\w.grownBy w' (some b):=by
 refine zK 39 [AtR b,zb8 x,u8 o,u8 v,s32 d] Tryz.func136 ?_;have f0:=zz w (.cells (zH.enc x).toArray 41);have hb:Bw w (w.alloc (.cells (zH.enc x).toArray 41)):=zba w _;have fr:=zb hb f;have hne:w.heap.size≠b:=fun e=>by have:=hlt f;omega
 refine⟨_,zc (za f0) (i:=2) rfl,?_⟩;refine cmo (ze0 (k:=1) (l:=x.loc) (v:=o) (m:=3) (d:=0) fr (by omega)) ?_;rintro e Y ⟨rfl,fY,gY,sY⟩;have f0Y:=(gY.block w.heap.size (hlt f0) (by simpa using hne)).trans f0;refine⟨_,zc (za f0Y) (i:=2) rfl,?_⟩;refine cmo (ze0 (k:=2) (l:=x.loc) (v:=v) (m:=3) (d:=d) fY (by show R.many+1<24;omega)) ?_;rintro e Z ⟨rfl,fZ,gZ,sZ⟩;have f0Z:=(gZ.block w.heap.size (hlt f0Y) (by simpa using hne)).trans f0Y;have gd:∀ Z:Wd,Z.grownBy Z.drew (some b):=fun Z=>⟨rfl,rfl,rfl,UZ _,fun _ _ _=>rfl⟩;refine DrawE.ord [7] [0,1,2,3,4,5,6,7] (by kernel_rfl) ?_;refine⟨by omega,_,zfx (e:=R.many) (by omega),?_⟩;refine⟨R.many+1,rfl,by omega,?_⟩;refine zj zkI (hdr fZ) (o:=0+235+(R.many+1)*1) (v:=s32 (2^R.many)) rfl rfl (by rw [jv];omega) rfl fun V fV gV sV=>?_;rw [UU,Ga,zi6 _ (by omega)] at fV;have f0V:=(gV.block w.heap.size (hlt f0Z) (by simpa using hne)).trans (hdr f0Z);refine DrawE.ord [6] [0,1,2,3,4,5,6] (by kernel_rfl) ?_;refine⟨_,zc (za (hdr f0V)) (i:=1) rfl,?_⟩;refine⟨by omega,_,zfx (e:=R.many) (by omega),?_⟩;refine cmo (zlm (d:=x.dst) (v:=o) (s:=2^R.many) (hdr fV) hd) ?_;rintro e U ⟨rfl,fU,gU,sU⟩;exact⟨rfl,fU,zd (zf hb) (zd gY (zd gZ (zd (gd Z) (zd gV (zd (gd V) gU)))))⟩
theorem zmu (f:jn w b R) (hm:R.many<23) (hd:x.dst.toNat<8) (ha:x.ar=true->x.an.toNat<8):Calls PG 96 #[AtR b,zb8 x,u8 v] w fun e w' =>
  e = .returned (.tuple #[])/\jn w' b (znw R x v)/\w.grownBy w' (some b):=by
 refine zK 21 [AtR b,zb8 x,u8 v] Tryz.func96 ?_;have f0:=zz w (.cells (zH.enc x).toArray 41);have hb:Bw w (w.alloc (.cells (zH.enc x).toArray 41)):=zba w _;have fr:=zb hb f;refine⟨[.bool x.ar,u8 x.an],rfl,qz (o:=3) (n:=2) f0,hlt f0,?_⟩;refine cmo (za7 fr ha) ?_;rintro e Y ⟨rfl,hbY⟩;have f0Y:=zb hbY f0;have fY:=zb hbY fr;refine⟨zH.enc x,rfl,za f0Y,hlt f0Y,?_⟩;refine cmo (zkP (x:=x) (o:=v) (v:=(qj x.ar x.an R).1) (d:=(qj x.ar x.an R).2) fY hm hd) ?_;rintro e Z ⟨rfl,fZ,gZ⟩;exact⟨rfl,fZ,zd (zf hb) (zd (zf hbY) gZ)⟩
theorem zkp (f:jn w b R) (hs:RunS R) (hm:R.many<23) (hd:x.dst.toNat<8) (ha:x.ar=true->x.an.toNat<8):Calls PG 97 #[AtR b,zb8 x,u8 v] w fun e w' =>
  e = .returned (.tuple #[])/\jn w' b (zeZ R x v)/\w.grownBy w' (some b):=by
 refine zK 40 [AtR b,zb8 x,u8 v] Tryz.func97 ?_;have f0:=zz w (.cells (zH.enc x).toArray 41);have hb:Bw w (w.alloc (.cells (zH.enc x).toArray 41)):=zba w _;have fr:=zb hb f;refine⟨[.bool x.ar,u8 x.an],rfl,qz (o:=3) (n:=2) f0,hlt f0,?_⟩;refine cmo (za7 fr ha) ?_;rintro e Y ⟨rfl,hbY⟩;have f0Y:=zb hbY f0;have fY:=zb hbY fr;refine⟨zH.enc x,rfl,za f0Y,hlt f0Y,?_⟩;refine⟨_,zqx _ _,?_⟩;refine cmo (zkP (x:=x) (o:=v) (v:=v+(qj x.ar x.an R).1) (d:=(qj x.ar x.an R).2) fY hm hd) ?_;rintro e Z ⟨rfl,fZ,gZ⟩;obtain⟨S,hS⟩:=nm (zby R x v (v+(qj x.ar x.an R).1) (qj x.ar x.an R).2);have sS:RunS S:=by rw [hS];exact hs.exch (by omega) (hs.val _ _)
 rw [<- hS] at fZ;have gd:∀ Z:Wd,Z.grownBy Z.drew (some b):=fun Z=>⟨rfl,rfl,rfl,UZ _,fun _ _ _=>rfl⟩;refine DrawE.ord [16] [0,1,2,3,4,5,6,7,8,9,10,11,12,13,14,15,16] (by kernel_rfl) ?_;refine⟨R.many+1,rfl,by omega,?_⟩;refine⟨_,by rw [Ga,UG];exact zc (za (hdr fZ)) (zi7 S (i:=R.many+1) (by omega)),?_⟩;refine⟨R.many+1,rfl,by omega,?_⟩;refine⟨_,by rw [Ga,UG];exact zc (za (hdr fZ)) (zia S (i:=R.many+1) (by omega)),?_⟩;refine⟨_,zeE (sS.s _).1 (sS.s _).2.2,?_⟩;refine⟨R.many+1,rfl,by omega,?_⟩;refine zj zkI (hdr fZ) (o:=0+187+(R.many+1)*1) (v:=s32 (S.data (R.many+1)|||S.att (R.many+1))) rfl rfl (by rw [jv];omega) rfl fun V fV gV sV=>?_;rw [UU,Ga,zdY _ (by omega)] at fV;refine⟨rfl,?_,zd (zf hb) (zd (zf hbY) (zd gZ (zd (gd Z) gV)))⟩;rw [hS] at fV;exact fV
theorem zmx (f:jn w b R) (hs:RunS R) (hd:x.dst.toNat<8) (ha:x.ar=true->x.an.toNat<8) (hc:x.br=true->x.bn.toNat<8):Calls PG 95 #[AtR b,zb8 x,u8 v] w fun e w' =>
  e = .returned (.tuple #[])/\jn w' b (zn7 R x)/\w.grownBy w' (some b):=by
 refine jf 47 [AtR b,zb8 x,u8 v] (.s .p (.s .p (.s .p (.c .p .p)))) Tryz.func95 ?_;have f0:=zz w (.cells (zH.enc x).toArray 41);have hb:Bw w (w.alloc (.cells (zH.enc x).toArray 41)):=zba w _;have fr:=zb hb f;refine⟨[.bool x.ar,u8 x.an],rfl,qz (o:=3) (n:=2) f0,hlt f0,?_⟩;refine cmo (za7 fr ha) ?_;rintro e Y ⟨rfl,hbY⟩;have f0Y:=zb hbY f0;have fY:=zb hbY fr;refine⟨[.bool x.br,u8 x.bn],rfl,qz (o:=5) (n:=2) f0Y,hlt f0Y,?_⟩;refine cmo (za7 fY hc) ?_;rintro e Z ⟨rfl,hbZ⟩;have f0Z:=zb hbZ f0Y;have fZ:=zb hbZ fY;obtain⟨A,hA⟩:=nm (qj x.ar x.an R);obtain⟨C,hC⟩:=nm (qj x.br x.bn R);rw [<- hA,<- hC];refine⟨Unit,fun _=>⟨[(0,AtR b),(4,At0 w.heap.size),(6,u8 (zhT x.fn A.1 C.1)),(7,s32 A.2),(9,s32 C.2)],[]⟩,fun _ X=>X=Z,?_,?_⟩
 ·refine⟨_,zc (za f0Z) (i:=7) rfl,?_⟩;refine biE (fun h=>?_) fun h=>?_
  ·have h:x.fn=1:=dT ((zbY (x:=x.fn) (y:=1)).symm.trans h);refine⟨_,zqx _ _,?_⟩;exact⟨(),⟨.cons rfl (.cons rfl (.cons (by unfold zhT;rw [Gs h];rfl) (.cons rfl (.cons rfl .nil)))),rfl⟩,rfl⟩
  ·have h:¬ x.fn=1:=dF ((zbY (x:=x.fn) (y:=1)).symm.trans h);refine biE (fun k=>?_) fun k=>?_
   ·have k:x.fn=2:=dT ((zbY (x:=x.fn) (y:=2)).symm.trans k);refine⟨_,zrY _ _,?_⟩;exact⟨(),⟨.cons rfl (.cons rfl (.cons (by unfold zhT;rw [Gr h,Gs k];rfl) (.cons rfl (.cons rfl .nil)))),rfl⟩,rfl⟩
   ·have k:¬ x.fn=2:=dF ((zbY (x:=x.fn) (y:=2)).symm.trans k);refine⟨_,zrX _ _,?_⟩;exact⟨(),⟨.cons rfl (.cons rfl (.cons (by unfold zhT;rw [Gr h,Gr k];rfl) (.cons rfl (.cons rfl .nil)))),rfl⟩,rfl⟩
 rintro _ _ rfl;refine⟨_,zc (za f0Z) (i:=1) rfl,?_⟩;refine⟨_,zeE (by rw [hA];exact hs.val _ _) (by rw [hC];exact hs.val _ _),?_⟩;refine cmo (zlm (d:=x.dst) (v:=zhT x.fn A.1 C.1) (s:=A.2|||C.2) fZ hd) ?_;rintro e U ⟨rfl,fU,gU,sU⟩;refine⟨rfl,?_,zd (zf hb) (zd (zf hbY) (zd (zf hbZ) gU))⟩;rw [hA,hC] at fU;exact fU
theorem znF (f:jn w b R) (hs:RunS R) (hm:R.many<23) (hd:x.dst.toNat<8) (ha:x.ar=true->x.an.toNat<8) (hc:x.br=true->x.bn.toNat<8):Calls PG 98 #[AtR b,zb8 x,u8 v] w fun e w' =>
  e = .returned (.tuple #[])/\jn w' b (zcW R x v)/\w.grownBy w' (some b):=by
 refine zK 65 [AtR b,zb8 x,u8 v] Tryz.func98 ?_;have f0:=zz w (.cells (zH.enc x).toArray 41);have hb:Bw w (w.alloc (.cells (zH.enc x).toArray 41)):=zba w _;have fr:=zb hb f;refine⟨[.bool x.ar,u8 x.an],rfl,qz (o:=3) (n:=2) f0,hlt f0,?_⟩;refine cmo (za7 fr ha) ?_;rintro e Y ⟨rfl,hbY⟩;have f0Y:=zb hbY f0;have fY:=zb hbY fr;refine⟨[.bool x.br,u8 x.bn],rfl,qz (o:=5) (n:=2) f0Y,hlt f0Y,?_⟩;refine cmo (za7 fY hc) ?_;rintro e Z ⟨rfl,hbZ⟩;have f0Z:=zb hbZ f0Y;have fZ:=zb hbZ fY;have gd:∀ Z:Wd,Z.grownBy Z.drew (some b):=fun Z=>⟨rfl,rfl,rfl,UZ _,fun _ _ _=>rfl⟩;have gZ:w.grownBy Z (some b):=zd (zf hb) (zd (zf hbY) (zf hbZ));have hne:w.heap.size≠b:=fun e=>by have:=hlt f;omega
 obtain⟨A,hA⟩:=nm (qj x.ar x.an R);obtain⟨C,hC⟩:=nm (qj x.br x.bn R);have hA2:A.2<2^32:=by rw [hA];exact hs.val _ _
 have hC2:C.2<2^32:=by rw [hC];exact hs.val _ _
 rw [<- hA,<- hC];refine biE (fun h=>?_) fun h=>?_
 ·have h:¬ v=A.1:=fun e=>by rw [e] at h;have h:(!decide (((A.1.toNat:Nat):Int)=((A.1.toNat:Nat):Int)))=true:=h;simp at h
  refine⟨_,zc (za f0Z) (i:=2) rfl,?_⟩;refine cmo (ze0 (k:=1) (l:=x.loc) (v:=v) (m:=3) (d:=0) fZ (by omega)) ?_;rintro e U ⟨rfl,fU,gU,sU⟩;have f0U:=(gU.block w.heap.size (hlt f0Z) (by simpa using hne)).trans f0Z;refine DrawE.ord [6] [0,1,2,3,4,5,6] (by kernel_rfl) ?_;refine⟨_,zc (za (hdr f0U)) (i:=1) rfl,?_⟩;refine⟨by omega,_,zfx (e:=R.many) (by omega),?_⟩;refine cmo (zlm (d:=x.dst) (v:=v) (s:=2^R.many) (hdr fU) hd) ?_;rintro e V ⟨rfl,fV,gV,sV⟩;refine⟨rfl,?_,zd gZ (zd gU (zd (gd U) gV))⟩;unfold zcW;rw [Gr (by rw [<- hA];exact h)];exact fV
 ·have h:v=A.1:=by
   have h:(!decide (((v.toNat:Nat):Int)=((A.1.toNat:Nat):Int)))=false:=h;rw [zbY,Bool.not_eq_false',dE] at h;exact h
  refine⟨zH.enc x,rfl,za f0Z,hlt f0Z,?_⟩;refine cmo (zkP (x:=x) (o:=v) (v:=C.1) (d:=C.2) fZ hm hd) ?_;rintro e U ⟨rfl,fU,gU⟩;obtain⟨S,hS⟩:=nm (zby R x v C.1 C.2);have sS:RunS S:=by rw [hS];exact hs.exch (by omega) hC2
  rw [<- hS] at fU;refine DrawE.ord [18] [0,1,2,3,4,5,6,7,8,9,10,11,12,13,14,15,16,17,18] (by kernel_rfl) ?_;refine⟨R.many+1,rfl,by omega,?_⟩;refine⟨_,by rw [Ga,UG];exact zc (za (hdr fU)) (zi8 S (i:=R.many+1) (by omega)),?_⟩;refine⟨R.many+1,rfl,by omega,?_⟩;refine⟨_,by rw [Ga,UG];exact zc (za (hdr fU)) (zia S (i:=R.many+1) (by omega)),?_⟩;refine⟨_,zeE (sS.s _).2.2 hA2,?_⟩;refine⟨_,zeE (sS.s _).2.1 (zjo (sS.s _).2.2 hA2),?_⟩;refine⟨R.many+1,rfl,by omega,?_⟩;refine zj zkI (hdr fU) (o:=0+211+(R.many+1)*1) (v:=s32 (S.ctrl (R.many+1)|||(S.att (R.many+1)|||A.2))) rfl rfl (by rw [jv];omega) rfl fun V fV gV sV=>?_;rw [UU,Ga,zdZ _ (by omega)] at fV;refine⟨rfl,?_,zd gZ (zd gU (zd (gd U) gV))⟩;unfold zcW;rw [Gs (by rw [<- hA];exact h),<- hA,<- hC,<- hS];exact fV
theorem zmv (f:jn w b R) (hs:RunS R) (hp:R.pc<=1000) (ha:x.ar=true->x.an.toNat<8) (hc:x.br=true->x.bn.toNat<8):Calls PG 100 #[AtR b,zb8 x,u8 v] w fun e w' =>
  e = .returned (.tuple #[])/\jn w' b (zbl R x)/\w.grownBy w' (some b):=by
 refine jf 61 [AtR b,zb8 x,u8 v] (.s .p (.s .p (.c .p (.c .p (.s .p (.c .p .p)))))) Tryz.func100 ?_;have f0:=zz w (.cells (zH.enc x).toArray 41);have hb:Bw w (w.alloc (.cells (zH.enc x).toArray 41)):=zba w _;have fr:=zb hb f;have hne:w.heap.size≠b:=fun e=>by have:=hlt f;omega
 refine⟨[.bool x.ar,u8 x.an],rfl,qz (o:=3) (n:=2) f0,hlt f0,?_⟩;refine cmo (za7 fr ha) ?_;rintro e Y ⟨rfl,hbY⟩;have f0Y:=zb hbY f0;have fY:=zb hbY fr;have gd:∀ Z:Wd,Z.grownBy Z.drew (some b):=fun Z=>⟨rfl,rfl,rfl,UZ _,fun _ _ _=>rfl⟩;obtain⟨A,hA⟩:=nm (qj x.ar x.an R);obtain⟨C,hC⟩:=nm (qj x.br x.bn R);have hA2:A.2<2^32:=by rw [hA];exact hs.val _ _
 have hC2:C.2<2^32:=by rw [hC];exact hs.val _ _
 refine⟨Unit,fun _=>⟨[(0,AtR b),(4,At0 w.heap.size),(6,u8 A.1),(7,s32 A.2),(8,u8 C.1),(9,s32 C.2)],[]⟩,fun _ X=>Bw Y X,?_,?_⟩
 ·refine⟨[.bool x.br,u8 x.bn],rfl,qz (o:=5) (n:=2) f0Y,hlt f0Y,?_⟩;refine cmo (za7 fY hc) ?_;rintro e Z ⟨rfl,hbZ⟩;rw [<- hA,<- hC];exact⟨(),(cvE rfl rfl),hbZ⟩
 rintro _ Z hbZ;have f0Z:=zb hbZ f0Y;have fZ:=zb hbZ fY;obtain⟨S,hS⟩:∃ S:RunD,S={ R with ctl:=R.ctl|||(A.2|||C.2) }:=⟨_,rfl⟩;have hpc:S.pc=R.pc:=by rw [hS]
 refine⟨Unit,fun _=>⟨[(0,AtR b),(4,At0 w.heap.size),(6,u8 A.1),(8,u8 C.1)],[]⟩,fun _ X=>jn X b S/\X.heap[w.heap.size]?=some (.cells (zH.enc x).toArray 41 (0,0))/\w.grownBy X (some b),?_,?_⟩
 ·refine⟨_,zc (za fZ) (i:=17) (zlo R),?_⟩;refine⟨_,zeE hA2 hC2,?_⟩;refine⟨_,zeE hs.c (zjo hA2 hC2),?_⟩;refine zj zkI fZ (o:=0+17) (v:=s32 (R.ctl|||(A.2|||C.2))) rfl rfl (by rw [jv];decide) rfl fun V fV gV sV=>?_;rw [UU,zi5] at fV;exact⟨(),(cvE rfl rfl),by rw [hS];exact fV,(gV.block w.heap.size (hlt f0Z) (by simpa using hne)).trans f0Z,zd (zf hb) (zd (zf hbY) (zd (zf hbZ) gV))⟩
 clear f0 fr f0Y fY f0Z fZ hb hbY hbZ;rintro _ V ⟨fV,f0V,gV'⟩;refine⟨Unit,fun _=>⟨[(0,AtR b),(4,At0 w.heap.size),(10,.bool (ziZ x.fn A.1 C.1))],[]⟩,fun _ X=>X=V,?_,?_⟩
 ·refine⟨_,zc (za f0V) (i:=7) rfl,?_⟩;refine biE (fun h=>?_) fun h=>?_
  ·have h:x.fn=4:=dT ((zbY (x:=x.fn) (y:=4)).symm.trans h);exact⟨(),⟨.cons rfl (.cons rfl (.cons (by unfold ziZ;rw [Gs h,<- zbY];rfl) .nil)),rfl⟩,rfl⟩
  ·have h:¬ x.fn=4:=dF ((zbY (x:=x.fn) (y:=4)).symm.trans h);refine biE (fun k=>?_) fun k=>?_
   ·have k:x.fn=5:=dT ((zbY (x:=x.fn) (y:=5)).symm.trans k);exact⟨(),⟨.cons rfl (.cons rfl (.cons (by unfold ziZ;rw [Gr h,Gs k,<- zbY];rfl) .nil)),rfl⟩,rfl⟩
   ·have k:¬ x.fn=5:=dF ((zbY (x:=x.fn) (y:=5)).symm.trans k);exact⟨(),⟨.cons rfl (.cons rfl (.cons (by unfold ziZ;rw [Gr h,Gr k,<- zpz];rfl) .nil)),rfl⟩,rfl⟩
 rintro _ _ rfl;refine biE (fun h=>?_) fun h=>?_
 ·refine DrawE.ord [10] [0,1,2,3,4,5,6,7,8,9,10] (by kernel_rfl) ?_;refine⟨_,zc (za (hdr fV)) (i:=0) rfl,?_⟩;refine⟨_,zc (za (hdr f0V)) (i:=9) rfl,?_⟩;have hk:=x.skip.toNat_lt;refine⟨_,ze (by omega),?_⟩;refine⟨((S.pc+x.skip.toNat:Nat):Int),(ze (by omega)).trans rfl,?_⟩;refine zj k3 (hdr fV) (o:=0+0) (v:=i64 (S.pc+x.skip.toNat:Nat)) rfl rfl (by rw [jv];decide) rfl fun U fU gU sU=>?_;rw [UU,zf1] at fU;refine⟨rfl,?_,zd gV' (zd (gd _) gU)⟩;unfold zbl;rw [<- hA,<- hC,Gs h];rw [hS] at fU;exact fU
 ·refine⟨rfl,?_,gV'⟩;unfold zbl;rw [<- hA,<- hC,Gr (by rw [h];decide)];rw [hS] at fV;exact fV
end
def ExG (x:InsD):Prop :=
 (x.op=1/\x.dst.toNat<8)\/(x.op=2/\(x.ar=true->x.an.toNat<8))\/(x.op=3/\x.dst.toNat<8/\(x.ar=true->x.an.toNat<8)/\(x.br=true->x.bn.toNat<8))\/(x.op=4/\x.dst.toNat<8/\(x.ar=true->x.an.toNat<8))\/(x.op=5/\x.dst.toNat<8/\(x.ar=true->x.an.toNat<8))\/(x.op=6/\x.dst.toNat<8/\(x.ar=true->x.an.toNat<8)/\(x.br=true->x.bn.toNat<8))\/x.op=7\/(x.op=8/\(x.ar=true->x.an.toNat<8)/\(x.br=true->x.bn.toNat<8))
theorem zT {x:InsD} {R:RunD} {v:UInt8}:(x.op=1->zdO R x v=zod R x v)/\(x.op=2->zdO R x v=zkj R x)/\(x.op=3->zdO R x v=zn7 R x)/\(x.op=4->zdO R x v=znw R x v)/\(x.op=5->zdO R x v=zeZ R x v)/\(x.op=6->zdO R x v=zcW R x v)/\(x.op=7->zdO R x v=zkO R x)/\(x.op=8->zdO R x v=zbl R x):=by
 unfold zdO;refine⟨fun h=>?_,fun h=>?_,fun h=>?_,fun h=>?_,fun h=>?_,fun h=>?_,fun h=>?_,fun h=>?_⟩ <;> rw [h] <;> rfl
theorem zlk {R:RunD} {x:InsD}:(zbl R x).pc<=R.pc+255/\(zbl R x).many=R.many/\(zbl R x).pc<=R.pc+x.skip.toNat:=by
 have:=x.skip.toNat_lt;unfold zbl;dsimp only
 split
 ·exact⟨by dsimp only;omega,rfl,UZ _⟩
 ·exact⟨by dsimp only;omega,rfl,by dsimp only;omega⟩
theorem zoN {R:RunD} {x:InsD} {v:UInt8}:(zcW R x v).pc=R.pc/\R.many+1<=(zcW R x v).many/\(zcW R x v).many<=R.many+2:=by
 unfold zcW
 split
 ·exact⟨rfl,Nat.le_succ _,UZ _⟩
 ·exact⟨rfl,UZ _,Nat.le_succ _⟩
section
variable {R:RunD} {b:Nat} {w:Wd}
theorem zdL {x:InsD} {v:UInt8} (f:jn w b R) (hs:RunS R) (hm:R.many<23) (hp:R.pc<=1000) (hx:ExG x):Calls PG 39 #[AtR b,zb8 x,u8 v] w fun e w' =>
  e = .returned (.tuple #[])/\jn w' b (zX R x v)/\w.grownBy w' (some b):=by
 refine zK 21 [AtR b,zb8 x,u8 v] Tryz.func39 ?_;have f0:=zz w (.cells (zH.enc x).toArray 41);obtain⟨W1,hW1⟩:=nm ((w.alloc (.cells (zH.enc x).toArray 41)).drew);have hb:Bw w W1:=by rw [hW1];exact ((zba w _)).drew
 have fr:jn W1 b R:=zb hb f;have f0:W1.heap[w.heap.size]?=some (.cells (zH.enc x).toArray 41 (0,0)):=by rw [hW1];exact f0
 have hW1':(w.alloc (.cells (Value.agg (zH.enc x).toArray).cells 41)).drew=W1:=hW1.symm;refine DrawE.ord [7] [1,2,4,5,6,0,3,7] (by kernel_rfl) ?_;rw [hW1'];refine⟨_,zc (za f0) (i:=0) rfl,zH.enc x,rfl,za f0,hlt f0,cmo zmV ?_⟩;rintro e Y ⟨rfl,hbY⟩;refine⟨hbY,?_⟩;have fY:=zb hbY fr;have gY:w.grownBy Y (some b):=zd (zf hb) (zf hbY);have fin:∀ {S:RunD} {Z:Wd},jn Z b S->Y.grownBy Z (some b)->S.pc<=2000->zdO R x v=S->∃ u,Z.cell? ⟨b,0+0,none⟩=some u/\zqm PG .add 3 (.tmp 17) (.const (i64 1)) u (i64 1) (fun v18=>SatR ((storeVar 3 ⟨b,0+0,none⟩ v18).run PG Z) fun _ w'=>(Ending.returned (.tuple #[])=Ending.returned (.tuple #[]))/\jn w' b (zX R x v)/\w.grownBy w' (some b)):=by
  intro S Z fZ gZ hpc he;have he:zX R x v={ S with pc:=S.pc+1 }:=by unfold zX;rw [he]
  refine⟨_,zc (za fZ) (i:=0) rfl,((S.pc+1:Nat):Int),(ze (by show _<=((S.pc:Nat):Int)+1/\((S.pc:Nat):Int)+1<=_;omega)).trans rfl,zj k3 fZ (o:=0+0) (v:=i64 (S.pc+1:Nat)) rfl rfl (by rw [jv];decide) rfl fun V fV gV sV=>?_⟩;rw [UU,zf1] at fV;rw [he];exact⟨rfl,fV,zd gY (zd gZ gV)⟩
 rcases hx with ⟨h1,h2⟩ | ⟨h1,h2⟩ | ⟨h1,h2,h3,h4⟩ | ⟨h1,h2,h3⟩ | ⟨h1,h2,h3⟩ | ⟨h1,h2,h3,h4⟩ | h1 | ⟨h1,h2,h3⟩
 ·refine⟨1,by rw [h1];rfl,by decide,?_⟩;refine j7 (v:=fnV 93) rfl (cmo (zmy fY (by omega) h2) ?_);rintro e Z ⟨rfl,fZ,gZ⟩;exact fin fZ gZ (show R.pc<=2000 by omega) (zT.1 h1)
 ·refine⟨2,by rw [h1];rfl,by decide,?_⟩;refine j7 (v:=fnV 94) rfl (cmo (zko fY (by omega) h2) ?_);rintro e Z ⟨rfl,fZ,gZ⟩;exact fin fZ gZ (show R.pc<=2000 by omega) (zT.2.1 h1)
 ·refine⟨3,by rw [h1];rfl,by decide,?_⟩;refine j7 (v:=fnV 95) rfl (cmo (zmx fY hs h2 h3 h4) ?_);rintro e Z ⟨rfl,fZ,gZ⟩;exact fin fZ gZ (show R.pc<=2000 by omega) (zT.2.2.1 h1)
 ·refine⟨4,by rw [h1];rfl,by decide,?_⟩;refine j7 (v:=fnV 96) rfl (cmo (zmu fY hm h2 h3) ?_);rintro e Z ⟨rfl,fZ,gZ⟩;exact fin fZ gZ (show R.pc<=2000 by omega) (zT.2.2.2.1 h1)
 ·refine⟨5,by rw [h1];rfl,by decide,?_⟩;refine j7 (v:=fnV 97) rfl (cmo (zkp fY hs hm h2 h3) ?_);rintro e Z ⟨rfl,fZ,gZ⟩;exact fin fZ gZ (show R.pc<=2000 by omega) (zT.2.2.2.2.1 h1)
 ·refine⟨6,by rw [h1];rfl,by decide,?_⟩;refine j7 (v:=fnV 98) rfl (cmo (znF fY hs hm h2 h3 h4) ?_);rintro e Z ⟨rfl,fZ,gZ⟩;exact fin fZ gZ (by rw [zoN.1];omega) (zT.2.2.2.2.2.1 h1)
 ·refine⟨7,by rw [h1];rfl,by decide,?_⟩;refine j7 (v:=fnV 99) rfl (cmo (zkq fY (by omega)) ?_);rintro e Z ⟨rfl,fZ,gZ⟩;exact fin fZ gZ (show R.pc<=2000 by omega) (zT.2.2.2.2.2.2.1 h1)
 ·refine⟨8,by rw [h1];rfl,by decide,?_⟩;refine j7 (v:=fnV 100) rfl (cmo (zmv fY hs hp h2 h3) ?_);rintro e Z ⟨rfl,fZ,gZ⟩;exact fin fZ gZ (by have:=(zlk (R:=R) (x:=x)).1;omega) (zT.2.2.2.2.2.2.2 h1)
end
theorem zmw {R:RunD} {x:InsD} {v:UInt8} (hs:RunS R) (hm:R.many<31) (hx:ExG x):RunS (zX R x v):=by
 have fin:∀ S:RunD,RunS S->zdO R x v=S->RunS (zX R x v):=fun S h e=>by
  unfold zX;rw [e];exact⟨h.d,h.c,h.s⟩
 have ex:∀ {o a:UInt8} {d:Nat},d<2^32->RunS (zby R x o a d):=fun hd=>hs.exch (by omega) hd;rcases hx with ⟨h1,-⟩ | ⟨h1,-⟩ | ⟨h1,-⟩ | ⟨h1,-⟩ | ⟨h1,-⟩ | ⟨h1,-⟩ | h1 | ⟨h1,-⟩
 ·exact fin _ ((hs.emit (by decide)).set (zlx (by omega))) (zT.1 h1)
 ·exact fin _ (hs.emit (hs.val _ _)) (zT.2.1 h1)
 ·exact fin _ (hs.set (zjo (hs.val _ _) (hs.val _ _))) (zT.2.2.1 h1)
 ·exact fin _ (ex (hs.val _ _)) (zT.2.2.2.1 h1)
 ·refine fin (zeZ R x v) ?_ (zT.2.2.2.2.1 h1);have h:=ex (o:=v) (a:=v+(qj x.ar x.an R).1) (hs.val x.ar x.an);exact⟨h.d,h.c,fun i=>⟨zeF (fun i=>(h.s i).1) (zjo (h.s _).1 (h.s _).2.2) i,(h.s i).2⟩⟩
 ·refine fin (zcW R x v) ?_ (zT.2.2.2.2.2.1 h1);unfold zcW
  split
  ·have h:=ex (o:=v) (a:=(qj x.br x.bn R).1) (hs.val x.br x.bn);exact⟨h.d,h.c,fun i=>⟨(h.s i).1,zeF (fun i=>(h.s i).2.1) (zjo (h.s _).2.1 (zjo (h.s _).2.2 (hs.val _ _))) i,(h.s i).2.2⟩⟩
  ·exact (hs.emit (by decide)).set (zlx (by omega))
 ·exact fin _ (hs.emit (by decide)) (zT.2.2.2.2.2.2.1 h1)
 ·refine fin (zbl R x) ?_ (zT.2.2.2.2.2.2.2 h1);have h:RunS { R with ctl:=R.ctl|||((qj x.ar x.an R).2|||(qj x.br x.bn R).2) }:=⟨hs.d,zjo hs.c (zjo (hs.val _ _) (hs.val _ _)),hs.s⟩;unfold zbl;dsimp only
  split
  ·exact⟨h.d,h.c,h.s⟩
  ·exact h
theorem zqU:RunS zdz:=⟨fun _=>(by decide:0<2^32),by decide,fun _=>⟨(by decide:0<2^32),(by decide:0<2^32),(by decide:0<2^32)⟩⟩
def ThG (l:List InsD):Prop:=l.length<=12/\∀ i x,l[i]?=some x->ExG x/\(x.op=8->x.skip.toNat<=l.length-1-i)
theorem ziv {x:InsD} {k n:Nat} (h:zg8 x k n=true):ExG x/\(x.op=8->x.skip.toNat<=n)/\(x.op=1\/x.op=2\/x.op=4\/x.op=5\/x.op=6->x.loc.toNat<k):=by
 unfold zg8 qJ at h;simp only [UD,List.all_nil,id_eq,Bool.and_true,bAT,dE,QK] at h;obtain⟨⟨h1,h8⟩,-,hd,hl,⟨ha,hb⟩,-,-,hs⟩:=h;have arg:∀ {r:Bool} {n:UInt8},ziJ r n=true->r=true->n.toNat<8:=fun {r n} h hr=>by
  subst hr;unfold ziJ at h;simpa using h
 have ha:=arg ha;have hb:=arg hb;have key:∀ i,1<=i->i<=8->UInt8.ofNat i=1\/UInt8.ofNat i=2\/UInt8.ofNat i=3\/UInt8.ofNat i=4\/UInt8.ofNat i=5\/UInt8.ofNat i=6\/UInt8.ofNat i=7\/UInt8.ofNat i=8:=by
  intro i a b;have:i=1\/i=2\/i=3\/i=4\/i=5\/i=6\/i=7\/i=8:=by omega
  rcases this with e | e | e | e | e | e | e | e <;> subst e <;> decide
 have hop:=key x.op.toNat h1 h8;rw [UInt8.ofNat_toNat] at hop;refine⟨?_,fun e=>?_,fun e=>?_⟩
 ·unfold ExG;rcases hop with e | e | e | e | e | e | e | e
  ·exact .inl ⟨e,hd⟩
  ·exact .inr (.inl ⟨e,ha⟩)
  ·exact .inr (.inr (.inl ⟨e,hd,ha,hb⟩))
  ·exact .inr (.inr (.inr (.inl ⟨e,hd,ha⟩)))
  ·exact .inr (.inr (.inr (.inr (.inl ⟨e,hd,ha⟩))))
  ·exact .inr (.inr (.inr (.inr (.inr (.inl ⟨e,hd,ha,hb⟩)))))
  ·exact .inr (.inr (.inr (.inr (.inr (.inr (.inl e))))))
  ·exact .inr (.inr (.inr (.inr (.inr (.inr (.inr ⟨e,ha,hb⟩))))))
 ·rw [e] at hs;rcases hs with hs | hs
  ·exact Gt hs (by decide)
  ·exact hs.2
 ·rcases hl with hl | hl
  ·rcases e with e | e | e | e | e <;> rw [e] at hl <;> exact Gt hl (by decide)
  ·exact hl
theorem zeH {l:List InsD} {k:Nat} (h:qc l k=true):ThG l:=by
 unfold qc at h;rw [bAT,dE,Qn] at h;refine⟨h.1,fun i x hi=>?_⟩;have hil:i<l.length:=(Jt.1 hi).1;have:=h.2 i (Ur.2 hil);rw [hi] at this;exact⟨(ziv this).1,(ziv this).2.1⟩
structure RunOk (l:List InsD) (R:RunD):Prop where
 m:R.many<=2*R.pc
 p:R.pc<=l.length
 s:RunS R
theorem zd0 (l:List InsD):RunOk l zdz:=⟨UZ _,Gc _,zqU⟩
theorem jW {l:List InsD} {S:RunD} {x:InsD} {v:UInt8} (ht:ThG l) (h:RunOk l S) (hx:l[S.pc]?=some x):RunOk l (zX S x v)/\S.pc+1<=(zX S x v).pc:=by
 obtain⟨hx1,hx8⟩:=ht.2 _ _ hx;have hpl:S.pc<l.length:=(Jt.1 hx).1;have hm:=h.m;have h12:=ht.1;have hs:=zmw (v:=v) h.s (by omega) hx1;have fin:∀ T:RunD,zdO S x v=T->T.many<=2*T.pc+2->S.pc<=T.pc->T.pc+1<=l.length->RunOk l (zX S x v)/\S.pc+1<=(zX S x v).pc:=fun T e h1 h2 h3=>by
  have e2:zX S x v={ T with pc:=T.pc+1 }:=by unfold zX;rw [e]
  refine⟨⟨?_,?_,hs⟩,?_⟩
  ·rw [e2];dsimp only;omega
  ·rw [e2];exact h3
  ·rw [e2];dsimp only;omega
 rcases hx1 with ⟨e,-⟩ | ⟨e,-⟩ | ⟨e,-⟩ | ⟨e,-⟩ | ⟨e,-⟩ | ⟨e,-⟩ | e | ⟨e,-⟩
 ·exact fin _ (zT.1 e) (show S.many+1<=2*S.pc+2 by omega) (UZ _) hpl
 ·exact fin _ (zT.2.1 e) (show S.many+1<=2*S.pc+2 by omega) (UZ _) hpl
 ·exact fin _ (zT.2.2.1 e) (show S.many<=2*S.pc+2 by omega) (UZ _) hpl
 ·exact fin _ (zT.2.2.2.1 e) (show S.many+1+1<=2*S.pc+2 by omega) (UZ _) hpl
 ·exact fin _ (zT.2.2.2.2.1 e) (show S.many+1+1<=2*S.pc+2 by omega) (UZ _) hpl
 ·obtain⟨c1,c2,c3⟩:=zoN (R:=S) (x:=x) (v:=v);exact fin _ (zT.2.2.2.2.2.1 e) (by omega) (by omega) (by omega)
 ·exact fin _ (zT.2.2.2.2.2.2.1 e) (show S.many+1<=2*S.pc+2 by omega) (UZ _) hpl
 ·obtain⟨c1,c2,c3⟩:=zlk (R:=S) (x:=x);have h8:=hx8 e;have hge:S.pc<=(zbl S x).pc:=by
   unfold zbl;dsimp only
   split
   ·exact QC _ _
   ·exact UZ _
  exact fin _ (zT.2.2.2.2.2.2.2 e) (by omega) hge (by omega)
theorem zmA {x:InsD} (hx:ExG x):((x.op=1\/x.op=4\/x.op=5\/x.op=6)/\qX x=true)\/((x.op≠1/\x.op≠4/\x.op≠5/\x.op≠6)/\qX x=false):=by
 by_cases h:x.op=1\/x.op=4\/x.op=5\/x.op=6
 ·refine .inl ⟨h,?_⟩;unfold qX;rcases h with e | e | e | e <;> rw [e] <;> rfl
 ·have h1:x.op≠1:=fun e=>h (.inl e);have h4:x.op≠4:=fun e=>h (.inr (.inl e));have h5:x.op≠5:=fun e=>h (.inr (.inr (.inl e)));have h6:x.op≠6:=fun e=>h (.inr (.inr (.inr e)));refine .inr ⟨⟨h1,h4,h5,h6⟩,?_⟩;unfold qX;rw [Uk h1,Uk h4,Uk h5,Uk h6];rfl
section
variable {R:RunD} {b:Nat} {w:Wd} {l:List InsD} {q:OA} {cap:Nat}
theorem zdC (f:jn w b R) (hl:SlR zH w q l) (hq:l≠[]->∀ a,q=some a->a.block≠b) (ht:ThG l) (hR:RunOk l R) :
  Calls PG 38 #[AtR b,.slice q l.length cap] w fun e w'=>e = .returned (.bool (l[(goR l l.length R).pc]?).isSome)/\jn w' b (goR l l.length R)/\w.grownBy w' (some b)/\RunOk l (goR l l.length R)/\R.pc<=(goR l l.length R).pc:=by
 refine zK 34 [AtR b,.slice q l.length cap] Tryz.func38 ?_;have h12:=ht.1;refine⟨RunD×Nat,fun s=>⟨[(0,AtR b),(1,.slice q l.length cap)],[]⟩,
  fun s X=>(goR l l.length R=goR l s.2 s.1/\l.length<=s.2+s.1.pc/\RunOk l s.1/\R.pc<=s.1.pc)/\jn X b s.1/\w.grownBy X (some b),fun s=>l.length-s.1.pc,(R,l.length),
  (cvE rfl rfl),⟨⟨rfl,by omega,hR,UZ _⟩,f,z5 w _⟩,?_⟩
 rintro⟨S,n⟩ X ⟨⟨he,hn,hS,hpp⟩,fX,gX⟩;dsimp only at he hn hS hpp fX ⊢;refine⟨_,zc (za fX) (i:=0) rfl,biE (fun hc=>?_) fun hc=>?_⟩
 ·have hc:(S.pc:Int)<(l.length:Int):=dT hc;have hi:S.pc<l.length:=by omega
  have hm:=hS.m;obtain⟨n,rfl⟩:∃ n',n=n'+1:=⟨n-1,by omega⟩;obtain⟨bq,oq,rfl,hlq,hat⟩:=(zhp hl (hq (List.ne_nil_of_length_pos (by omega))) gX).at hi;have hg:l[S.pc]?=some l[S.pc]:=gE hi;have hxi:=(ht.2 _ _ hg).1;refine⟨_,zc (za fX) (i:=0) rfl,S.pc,rfl,hi,_,zc (hat S.pc hi) (i:=0) rfl,?_⟩;have no:∀ k:UInt8,l[S.pc].op≠k->decide (((l[S.pc].op).toNat:Int)=(k.toNat:Int))=false:=fun k hk=>Uk fun e=>hk (jh.1 e);rcases zmA hxi with ⟨ho,hr⟩ | ⟨⟨o1,o4,o5,o6⟩,hr⟩
  ·have e1:goR l l.length R=S:=he.trans (zpM hg hr _);have fin:∀ {u:Bool},u=true->(Ending.returned (.bool u)=Ending.returned (.bool (l[(goR l l.length R).pc]?).isSome)/\jn X b (goR l l.length R)/\w.grownBy X (some b)/\RunOk l (goR l l.length R)/\R.pc<=(goR l l.length R).pc):=fun hu=>by
    rw [e1,hg,hu];exact⟨rfl,fX,gX,hS,hpp⟩
   rcases ho with ho | ho | ho | ho
   ·exact brE (by rw [ho];rfl) (brE (by rw [ho];rfl) (fin rfl))
   ·exact brN (no 1 (by rw [ho];decide)) (brE (by rw [ho];rfl) (brE (by rw [ho];rfl) (fin rfl)))
   ·exact brN (no 1 (by rw [ho];decide)) (brN (no 4 (by rw [ho];decide)) (brE (by rw [ho];rfl) (brE (by rw [ho];rfl) (fin rfl))))
   ·exact brN (no 1 (by rw [ho];decide)) (brN (no 4 (by rw [ho];decide)) (brN (no 5 (by rw [ho];decide)) (brE (by rw [ho];rfl) (fin rfl))))
  ·refine brN (no 1 o1) (brN (no 4 o4) (brN (no 5 o5) (brN (no 6 o6) ⟨_,zc (za fX) (i:=0) rfl,S.pc,rfl,hi,zH.enc l[S.pc],rfl,hat S.pc hi,hlq,cmo (zdL (v:=0) fX hS.s (by omega) (by omega) hxi) ?_⟩)));rintro e Y ⟨rfl,fY,gY⟩;obtain⟨x1,x2⟩:=jW (v:=0) ht hS hg;exact⟨(zX S l[S.pc] 0,n),(cvE rfl rfl),⟨⟨he.trans (zpL hg hr n),by dsimp only;omega,x1,by dsimp only;omega⟩,fY,zd gX gY⟩,by dsimp only;omega⟩
 ·have hc:¬ (S.pc:Int)<(l.length:Int):=dF hc;have hg:l[S.pc]?=none:=JL (by omega);have e1:goR l l.length R=S:=he.trans (zom hg _);rw [e1,hg];exact⟨rfl,fX,gX,hS,hpp⟩
end
theorem zgG {l:List InsD} (ht:ThG l):∀ (n:Nat) (S:RunD),RunOk l S->RunOk l (goR l n S)
 | 0,S,h=>h
 | n+1,S,h=>by
  show RunOk l (match l[S.pc]? with | none=>S | some x=>if qX x then S else goR l n (zX S x 0))
  cases hg:l[S.pc]? with
  | none=>exact h
  | some x =>
   dsimp only
   split
   ·exact h
   ·exact zgG ht n _ (jW ht h hg).1
theorem zfT {l:List InsD} (ht:ThG l) (dom:List UInt8):∀ (n:Nat) (S:RunD),RunOk l S->∀ R∈zS l dom n S,RunOk l R
 | 0,S,h,R,hR=>by
  have hR:R∈[goR l l.length S]:=hR;rw [KE] at hR;rw [hR];exact zgG ht _ _ h
 | n+1,S,h,R,hR=>by
  have hT:=zgG ht l.length S h;have hR:R∈(match l[(goR l l.length S).pc]? with | none=>[goR l l.length S] | some x=>dom.flatMap fun v=>zS l dom n (zX (goR l l.length S) x v)):=hR
  cases hg:l[(goR l l.length S).pc]? with
  | none =>
   rw [hg] at hR;have hR:=KE.1 hR;rw [hR];exact hT
  | some x =>
   rw [hg] at hR;obtain⟨v,-,hv⟩:=List.mem_flatMap.1 hR;exact zfT ht dom n _ (jW ht hT hg).1 R hv
theorem zoA {l:List InsD} (ht:ThG l) (dom:List UInt8):∀ R∈qs l dom,RunOk l R:=zfT ht dom _ _ (zd0 l)
theorem zfJ {l:List InsD} (ht:ThG l) (dom:List UInt8):∀ R∈qs l dom,R.many<=24/\∀ i,R.data i<2^32/\R.ctrl i<2^32/\R.att i<2^32:=fun R hR=>by
 have h:=zoA ht dom R hR;have h1:=h.m;have h2:=h.p;have h3:=ht.1;exact⟨by omega,fun i=>h.s.s i⟩
def Rds (ev:Nat->Ev) (n s:Nat):Prop:=∀ b,s.testBit b=true->b<n/\(ev b).k=1
theorem zf4 (ev:Nat->Ev) (n:Nat):Rds ev n 0:=fun b h=>by simp at h
theorem Rds.or {ev:Nat->Ev} {n s t:Nat} (h:Rds ev n s) (k:Rds ev n t):Rds ev n (s|||t):=fun b hb=>by
 rw [Uu,QK] at hb;exact hb.elim (h b) (k b)
theorem Rds.mono {ev:Nat->Ev} {n m s:Nat} (h:Rds ev n s) (hm:n<=m):Rds ev m s:=fun b hb=>⟨nL (h b hb).1 hm,(h b hb).2⟩
theorem zfB {ev:Nat->Ev} {n b:Nat} (hb:b<n) (hk:(ev b).k=1):Rds ev n (2^b):=fun c hc=>by
 rw [Kt] at hc;have e:b=c:=dT hc;rw [<- e];exact⟨hb,hk⟩
theorem Rds.upd {ev:Nat->Ev} {n m s:Nat} {e:Ev} (h:Rds ev n s) (hm:n<=m):Rds (upd ev m e) n s:=fun b hb=>by
 obtain⟨h1,h2⟩:=h b hb;rw [qp _ _ (by omega)];exact⟨h1,h2⟩
def zqu (k i:Nat) (e:Ev):Prop:=e.th=0/\e.p=UInt8.ofNat i/\(((e.k=1\/e.k=2)/\e.l.toNat<k)\/(e.k=3/\e.l=0/\e.v=0))
structure RunW (k:Nat) (R:RunD):Prop where
 ev:∀ i,i<R.many->zqu k i (R.ev i)
 deps:∀ j,Rds R.ev R.many (R.deps j)
 ctl:Rds R.ev R.many R.ctl
 data:∀ i,i<R.many->Rds R.ev i (R.data i)/\(R.data i≠0->(R.ev i).k=2)
 ctrl:∀ i,i<R.many->Rds R.ev i (R.ctrl i)
 att:∀ i,i<R.many->R.att i=0\/∃ b,i=b+1/\R.att i=2^b/\(R.ev b).k=1/\(R.ev i).k=2/\(R.ev b).l=(R.ev i).l
 fresh:∀ i,R.many<=i->R.att i=0
theorem zqT (k:Nat):RunW k zdz where
 ev:=fun i h=>Gt h (Ue i)
 deps:=fun j=>zf4 _ _
 ctl:=zf4 _ _
 data:=fun i h=>Gt h (Ue i)
 ctrl:=fun i h=>Gt h (Ue i)
 att:=fun i h=>Gt h (Ue i)
 fresh:=fun i _=>rfl
section
variable {k:Nat} {R:RunD} {x:InsD} {v:UInt8}
theorem RunW.val (h:RunW k R) (r:Bool) (n:UInt8):Rds R.ev R.many (qj r n R).2:=by
 unfold qj
 split
 ·exact h.deps _
 ·exact zf4 _ _
theorem RunW.emit (h:RunW k R) {kd l v m:UInt8} {d:Nat} (he:((kd=1\/kd=2)/\l.toNat<k)\/(kd=3/\l=0/\v=0)) (hd:Rds R.ev R.many d) (hk:d≠0->kd=2):RunW k (jJ R kd l v m d):=by
 have old:∀ {i:Nat},i<R.many->upd R.ev R.many ⟨0,kd,l,v,m,UInt8.ofNat R.pc,UInt8.ofNat R.many⟩ i=R.ev i:=fun {i} hi=>qp _ _ (by omega);have new:upd R.ev R.many ⟨0,kd,l,v,m,UInt8.ofNat R.pc,UInt8.ofNat R.many⟩ R.many=⟨0,kd,l,v,m,UInt8.ofNat R.pc,UInt8.ofNat R.many⟩:=zM _ _ _;have spl:∀ {i:Nat},i<R.many+1->i=R.many\/i<R.many:=fun {i} hi=>by omega
 refine⟨fun i hi=>?_,fun j=>(((h.deps j).upd (UZ _)).mono (Nat.le_succ _)),(h.ctl.upd (UZ _)).mono (Nat.le_succ _),fun i hi=>?_,fun i hi=>?_,fun i hi=>?_,fun i hi=>h.fresh i (by have:R.many+1<=i:=hi;omega)⟩
 ·show zqu k i (upd R.ev R.many _ i);rcases spl hi with e | hi
  ·rw [e,new];exact⟨rfl,rfl,he⟩
  ·rw [old hi];exact h.ev i hi
 ·show Rds (upd R.ev R.many _) i (upd R.data R.many d i)/\(upd R.data R.many d i≠0->(upd R.ev R.many _ i).k=2);rcases spl hi with e | hi
  ·rw [e,zM,new];exact⟨hd.upd (UZ _),hk⟩
  ·rw [qp _ _ (by omega),old hi];exact⟨(h.data i hi).1.upd (Nat.le_of_lt hi),(h.data i hi).2⟩
 ·show Rds (upd R.ev R.many _) i (upd R.ctrl R.many R.ctl i);rcases spl hi with e | hi
  ·rw [e,zM];exact h.ctl.upd (UZ _)
  ·rw [qp _ _ (by omega)];exact (h.ctrl i hi).upd (Nat.le_of_lt hi)
 ·show R.att i=0\/∃ b,i=b+1/\R.att i=2^b/\(upd R.ev R.many _ b).k=1/\(upd R.ev R.many _ i).k=2/\(upd R.ev R.many _ b).l=(upd R.ev R.many _ i).l;rcases spl hi with e | hi
  ·exact .inl (h.fresh i (by omega))
  ·rcases h.att i hi with h0 | ⟨b,hb,h1,h2,h3,h4⟩
   ·exact .inl h0
   ·refine .inr ⟨b,hb,h1,?_⟩;rw [old hi,old (by omega)];exact⟨h2,h3,h4⟩
theorem RunW.set (h:RunW k R) {d v:UInt8} {s:Nat} (hs:Rds R.ev R.many s):RunW k (zh6 R d v s):=by
 refine⟨h.ev,fun j=>?_,h.ctl,h.data,h.ctrl,h.att,h.fresh⟩;show Rds R.ev R.many (upd R.deps d.toNat s j);by_cases e:j=d.toNat
 ·rw [e,zM];exact hs
 ·rw [qp _ _ e];exact h.deps j
structure ExchW (k:Nat) (R S:RunD) (x:InsD):Prop where
 w:RunW k S
 m:S.many=R.many+2
 k1:(S.ev R.many).k=1
 k2:(S.ev (R.many+1)).k=2
 a:S.att (R.many+1)=2^R.many
theorem RunW.exch (h:RunW k R) (hl:x.loc.toNat<k) {o v:UInt8} {d:Nat} (hd:Rds R.ev R.many d):ExchW k R (zby R x o v d) x:=by
 have h1:=h.emit (kd:=1) (l:=x.loc) (v:=o) (m:=3) (d:=0) (.inl ⟨.inl rfl,hl⟩) (zf4 _ _) (fun e=>Gt rfl e);have hd1:Rds (jJ R 1 x.loc o 3 0).ev (R.many+1) d:=(hd.upd (UZ _)).mono (Nat.le_succ _);have h2:=h1.emit (kd:=2) (l:=x.loc) (v:=v) (m:=3) (d:=d) (.inl ⟨.inr rfl,hl⟩) hd1 (fun _=>rfl);obtain⟨S,hS⟩:=nm (jJ (jJ R 1 x.loc o 3 0) 2 x.loc v 3 d);rw [<- hS] at h2;have sm:S.many=R.many+2:=by rw [hS];rfl
 have e1:S.ev R.many=⟨0,1,x.loc,o,3,UInt8.ofNat R.pc,UInt8.ofNat R.many⟩:=by
  rw [hS];show upd (upd R.ev R.many _) (R.many+1) _ R.many=_;rw [qp _ _ (by omega),zM]
 have e2:S.ev (R.many+1)=⟨0,2,x.loc,v,3,UInt8.ofNat R.pc,UInt8.ofNat (R.many+1)⟩:=by
  rw [hS];show upd (upd R.ev R.many _) (R.many+1) _ (R.many+1)=_;rw [zM];rfl
 have h3:RunW k { S with att:=upd S.att (R.many+1) (2^R.many) }:=by
  refine⟨h2.ev,h2.deps,h2.ctl,h2.data,h2.ctrl,fun i hi=>?_,fun i hi=>?_⟩
  ·show upd S.att (R.many+1) (2^R.many) i=0\/∃ b,i=b+1/\upd S.att (R.many+1) (2^R.many) i=2^b/\(S.ev b).k=1/\(S.ev i).k=2/\(S.ev b).l=(S.ev i).l;by_cases e:i=R.many+1
   ·rw [e,zM];exact .inr ⟨R.many,rfl,rfl,by rw [e1],by rw [e2],by rw [e1,e2]⟩
   ·rw [qp _ _ e];exact h2.att i hi
  ·show upd S.att (R.many+1) (2^R.many) i=0;have hi:S.many<=i:=hi;rw [qp _ _ (by omega)];exact h2.fresh i hi
 have h4:=RunW.set (d:=x.dst) (v:=o) h3 (zfB (b:=R.many) (by show R.many<S.many;omega) (by show (S.ev R.many).k=1;rw [e1]));have e5:zby R x o v d=zh6 { S with att:=upd S.att (R.many+1) (2^R.many) } x.dst o (2^R.many):=by rw [hS];rfl
 rw [e5];exact⟨h4,sm,by show (S.ev R.many).k=1;rw [e1],by show (S.ev (R.many+1)).k=2;rw [e2],zM _ _ _⟩
theorem ExchW.rd {S:RunD} (h:ExchW k R S x):Rds S.ev (R.many+1) (2^R.many):=zfB (QE _) h.k1
theorem RunW.fetch (h:RunW k R) (hl:x.loc.toNat<k):RunW k (zeZ R x v):=by
 have h1:=RunW.exch (o:=v) (v:=v+(qj x.ar x.an R).1) (d:=(qj x.ar x.an R).2) h hl (h.val x.ar x.an);obtain⟨S,hS⟩:=nm (zby R x v (v+(qj x.ar x.an R).1) (qj x.ar x.an R).2);rw [<- hS] at h1;have e:zeZ R x v={ S with data:=upd S.data (R.many+1) (S.data (R.many+1)|||S.att (R.many+1)) }:=by rw [hS];rfl
 rw [e];have hw:=h1.w;have hm:=h1.m;refine⟨hw.ev,hw.deps,hw.ctl,fun i hi=>?_,hw.ctrl,hw.att,hw.fresh⟩;show Rds S.ev i (upd S.data (R.many+1) _ i)/\(upd S.data (R.many+1) _ i≠0->(S.ev i).k=2);by_cases e:i=R.many+1
 ·rw [e,zM,h1.a];exact⟨(hw.data _ (by omega)).1.or h1.rd,fun _=>h1.k2⟩
 ·rw [qp _ _ e];exact hw.data i hi
theorem RunW.cas (h:RunW k R) (hl:x.loc.toNat<k):RunW k (zcW R x v):=by
 by_cases hv:v=(qj x.ar x.an R).1
 ·have h1:=RunW.exch (o:=v) (v:=(qj x.br x.bn R).1) (d:=(qj x.br x.bn R).2) h hl (h.val x.br x.bn);obtain⟨S,hS⟩:=nm (zby R x v (qj x.br x.bn R).1 (qj x.br x.bn R).2);rw [<- hS] at h1;have hw:=h1.w;have hm:=h1.m;have ha:Rds S.ev (R.many+1) (qj x.ar x.an R).2:=by
   have h2:Rds R.ev R.many (qj x.ar x.an R).2:=h.val _ _;have e1:∀ b,b<R.many->S.ev b=R.ev b:=fun b hb=>by
    rw [hS];show upd (upd R.ev R.many _) (R.many+1) _ b=_;rw [qp _ _ (by omega),qp _ _ (by omega)]
   intro b hb;obtain⟨c1,c2⟩:=h2 b hb;rw [e1 b c1];exact⟨by omega,c2⟩
  have e:zcW R x v={ S with ctrl:=upd S.ctrl (R.many+1) (S.ctrl (R.many+1)|||(S.att (R.many+1)|||(qj x.ar x.an R).2)) }:=by
   unfold zcW;rw [Gs hv,hS]
  rw [e];clear e;refine⟨hw.ev,hw.deps,hw.ctl,hw.data,fun i hi=>?_,hw.att,hw.fresh⟩;show Rds S.ev i (upd S.ctrl (R.many+1) _ i);by_cases e:i=R.many+1
  ·rw [e,zM,h1.a];exact (hw.ctrl _ (by omega)).or (h1.rd.or ha)
  ·rw [qp _ _ e];exact hw.ctrl i hi
 ·have e:zcW R x v=zh6 (jJ R 1 x.loc v 3 0) x.dst v (2^R.many):=by unfold zcW;rw [Gr hv]
  rw [e];have h1:=h.emit (kd:=1) (l:=x.loc) (v:=v) (m:=3) (d:=0) (.inl ⟨.inl rfl,hl⟩) (zf4 _ _) (fun e=>Gt rfl e);refine RunW.set h1 (zfB (b:=R.many) (QE _) ?_);show (upd R.ev R.many _ R.many).k=1;rw [zM]
theorem RunW.pc (h:RunW k R) (n:Nat):RunW k { R with pc:=n }:=⟨h.ev,h.deps,h.ctl,h.data,h.ctrl,h.att,h.fresh⟩
theorem RunW.eff (h:RunW k R) (hx:ExG x) (hl:x.op=1\/x.op=2\/x.op=4\/x.op=5\/x.op=6->x.loc.toNat<k):RunW k (zdO R x v):=by
 rcases hx with ⟨e,-⟩ | ⟨e,-⟩ | ⟨e,-⟩ | ⟨e,-⟩ | ⟨e,-⟩ | ⟨e,-⟩ | e | ⟨e,-⟩
 ·rw [zT.1 e];have h1:=h.emit (kd:=1) (l:=x.loc) (v:=v) (m:=x.mode) (d:=0) (.inl ⟨.inl rfl,hl (.inl e)⟩) (zf4 _ _) (fun e=>Gt rfl e);refine RunW.set h1 (zfB (b:=R.many) (QE _) ?_);show (upd R.ev R.many _ R.many).k=1;rw [zM]
 ·rw [zT.2.1 e];exact h.emit (.inl ⟨.inr rfl,hl (.inr (.inl e))⟩) (h.val _ _) (fun _=>rfl)
 ·rw [zT.2.2.1 e];exact h.set ((h.val _ _).or (h.val _ _))
 ·rw [zT.2.2.2.1 e];exact (h.exch (hl (.inr (.inr (.inl e)))) (h.val _ _)).w
 ·rw [zT.2.2.2.2.1 e];exact h.fetch (hl (.inr (.inr (.inr (.inl e)))))
 ·rw [zT.2.2.2.2.2.1 e];exact h.cas (hl (.inr (.inr (.inr (.inr e)))))
 ·rw [zT.2.2.2.2.2.2.1 e];exact h.emit (.inr ⟨rfl,rfl,rfl⟩) (zf4 _ _) (fun e=>Gt rfl e)
 ·rw [zT.2.2.2.2.2.2.2 e];have h1:RunW k { R with ctl:=R.ctl|||((qj x.ar x.an R).2|||(qj x.br x.bn R).2) }:=⟨h.ev,h.deps,h.ctl.or ((h.val _ _).or (h.val _ _)),h.data,h.ctrl,h.att,h.fresh⟩;unfold zbl;dsimp only
  split
  ·exact h1.pc _
  ·exact h1
theorem RunW.exec (h:RunW k R) (hx:ExG x) (hl:x.op=1\/x.op=2\/x.op=4\/x.op=5\/x.op=6->x.loc.toNat<k):RunW k (zX R x v):=RunW.pc (h.eff hx hl) _
end
def ThW (k:Nat) (l:List InsD):Prop:=∀ x∈l,ExG x/\(x.op=1\/x.op=2\/x.op=4\/x.op=5\/x.op=6->x.loc.toNat<k)
theorem zqR {l:List InsD} {k:Nat} (h:qc l k=true):ThW k l:=fun x hx=>by
 unfold qc at h;rw [bAT,dE,Qn] at h;obtain⟨i,hi,rfl⟩:=Km hx;have:=h.2 i (Ur.2 hi);rw [gE hi] at this;exact⟨(ziv this).1,(ziv this).2.2⟩
theorem RunW.go {k:Nat} {l:List InsD} (ht:ThW k l):∀ (n:Nat) (S:RunD),RunW k S->RunW k (goR l n S)
 | 0,S,h=>h
 | n+1,S,h=>by
  show RunW k (match l[S.pc]? with | none=>S | some x=>if qX x then S else goR l n (zX S x 0))
  cases hg:l[S.pc]? with
  | none=>exact h
  | some x =>
   dsimp only
   split
   ·exact h
   ·obtain⟨a,b⟩:=ht x (Ka hg);exact RunW.go ht n _ (h.exec a b)
theorem RunW.spread {k:Nat} {l:List InsD} (ht:ThW k l) (dom:List UInt8):∀ (n:Nat) (S:RunD),RunW k S->∀ R∈zS l dom n S,RunW k R
 | 0,S,h,R,hR=>by
  have hR:R∈[goR l l.length S]:=hR;rw [KE] at hR;rw [hR];exact RunW.go ht _ _ h
 | n+1,S,h,R,hR=>by
  have hT:=RunW.go ht l.length S h;have hR:R∈(match l[(goR l l.length S).pc]? with | none=>[goR l l.length S] | some x=>dom.flatMap fun v=>zS l dom n (zX (goR l l.length S) x v)):=hR
  cases hg:l[(goR l l.length S).pc]? with
  | none =>
   rw [hg] at hR;have hR:=KE.1 hR;rw [hR];exact hT
  | some x =>
   rw [hg] at hR;obtain⟨v,-,hv⟩:=List.mem_flatMap.1 hR;obtain⟨a,b⟩:=ht x (Ka hg);exact RunW.spread ht dom n _ (hT.exec a b) R hv
theorem zrr {l:List InsD} {k:Nat} (h:qc l k=true) (dom:List UInt8):∀ R∈qs l dom,RunW k R/\R.many<=24:=fun R hR =>
 ⟨RunW.spread (zqR h) dom _ _ (zqT k) R hR,(zfJ (zeH h) dom R hR).1⟩
structure PathW (k:Nat) (P:PathD):Prop where
 n:P.ev.length<=24
 ev:∀ i e,P.ev[i]?=some e->zqu k i e
 dt:∀ p∈P.data,∃ a b,P.ev[p.1]?=some a/\P.ev[p.2]?=some b/\p.1<p.2/\a.k=1/\b.k=2
 ct:∀ p∈P.ctrl,∃ a b,P.ev[p.1]?=some a/\P.ev[p.2]?=some b/\p.1<p.2/\a.k=1
 rm:∀ p∈P.rmw,∃ a b,P.ev[p.1]?=some a/\P.ev[p.2]?=some b/\p.2=p.1+1/\a.k=1/\b.k=2/\a.l=b.l
 dtl:P.data.length<=100000
 ctl:P.ctrl.length<=100000
 rml:P.rmw.length<=100000
theorem zdF {f:Nat->Nat} {n:Nat} {p:Nat×Nat} (h:p∈zcN f n):p.2<n/\(f p.2).testBit p.1=true:=by
 unfold zcN at h;obtain⟨i,hi,h⟩:=List.mem_flatMap.1 h;obtain⟨a,ha,rfl⟩:=UM.1 h;exact⟨Ur.1 hi,(zbM.1 ha).2⟩
theorem zeS (f:Nat->Nat) {n:Nat} (h:n<=24):(zcN f n).length<=100000:=by
 rw [<- zc6];have:=zeR ((List.range n).map f) 0;rw [QR,KZ] at this;omega
theorem zcr {R:RunD} {i:Nat} (h:i<R.many):(jC R).ev[i]?=some (R.ev i):=by
 show ((List.range R.many).map R.ev)[i]?=_;rw [KY,Kl h];rfl
theorem zq4 {k:Nat} {R:RunD} (h:RunW k R) (hm:R.many<=24):PathW k (jC R):=by
 have hl:(jC R).ev.length=R.many:=by show ((List.range R.many).map R.ev).length=_;rw [QR,KZ]
 refine⟨by omega,fun i e he=>?_,fun p hp=>?_,fun p hp=>?_,fun p hp=>?_,zeS _ hm,zeS _ hm,zeS _ hm⟩
 ·have hi:i<R.many:=by rw [<- hl];exact (Jt.1 he).1
  rw [zcr hi] at he;rw [<- Ui he];exact h.ev i hi
 ·obtain⟨h1,h2⟩:=zdF hp;obtain⟨h3,h4⟩:=h.data _ h1;obtain⟨h5,h6⟩:=h3 _ h2;exact⟨_,_,zcr (by omega),zcr h1,h5,h6,h4 (fun e=>by rw [e] at h2;simp at h2)⟩
 ·obtain⟨h1,h2⟩:=zdF hp;obtain⟨h5,h6⟩:=h.ctrl _ h1 _ h2;exact⟨_,_,zcr (by omega),zcr h1,h5,h6⟩
 ·obtain⟨h1,h2⟩:=zdF hp;rcases h.att _ h1 with e | ⟨b,e1,e2,e3,e4,e5⟩
  ·rw [e] at h2;simp at h2
  ·rw [e2,Kt] at h2;have e:b=p.1:=dT h2;subst e;exact⟨_,_,zcr (by omega),zcr h1,e1,e3,e4,e5⟩
theorem PathW.b {k:Nat} {P:PathD} (h:PathW k P):PathB k P:=by
 have lt:∀ {i:Nat} {e:Ev},P.ev[i]?=some e->i<P.ev.length:=fun {i e} he=>(Jt.1 he).1;refine⟨h.n,fun e he hk=>?_,fun p hp=>?_,fun p hp=>?_,fun p hp=>?_,h.dtl,h.ctl,h.rml⟩
 ·obtain⟨i,hi,rfl⟩:=Km he;rcases (h.ev i _ (gE hi)).2.2 with h1 | ⟨h1,_⟩
  ·exact h1.2
  ·rw [h1] at hk;rcases hk with hk | hk <;> exact Gt hk (by decide)
 ·obtain⟨a,b,h1,h2,_⟩:=h.dt p hp;exact⟨lt h1,lt h2⟩
 ·obtain⟨a,b,h1,h2,_⟩:=h.ct p hp;exact⟨lt h1,lt h2⟩
 ·obtain⟨a,b,h1,h2,_⟩:=h.rm p hp;exact⟨lt h1,lt h2⟩
end Go.Proofs.YtpalcnbhkigagaaGreatDoor
namespace Go.Sei
def zew (f:Nat->Bool) (n:Nat):Nat:=((List.range n).filter f).length
theorem zkK (e:Ev) (es:List Ev):qT (e::es)=if e.th = -1 then qT es+1 else 0:=by
 unfold qT;rw [Ks];by_cases h:e.th = -1
 ·rw [Gs (Uv h),Gs h,Qw]
 ·rw [Gr (by simp [h]),Gr h];rfl
section
variable {L:List Ev} {locs:Nat}
theorem zcd (f:Nat->Bool) (n:Nat):zew f (n+1)=zew f n+if f n=true then 1 else 0:=by
 unfold zew;rw [QZ,Kz,lap,Qr,List.filter_nil]
 split <;> rfl
theorem zoJ {f:Nat->Bool} {n:Nat} (h:∀ k,k<n->f k=false):zew f n=0:=by
 unfold zew;rw [List.length_eq_zero_iff,JE];intro k hk;rw [h k (Ur.1 hk)];decide
end
theorem zhK (ev:List Ev) (a k:Nat):(ev.drop a).getD k ev0=ev.getD (a+k) ev0:=by
 rw [gDe,gDe,KA]
end Go.Sei
namespace Go.Proofs.YtpalcnbhkigagaaGreatDoor
open Go.Vc Go.RowKit Go.Sei
theorem zhr (k:Nat) (p:Nat->Bool):zks (k+1) p=if p k=true then zks k p|||2^k else zks k p:=by
 unfold zks;rw [QZ,KX];rfl
theorem zid (p:Nat->Bool):∀ k,k<=64->zks k p<2^64
 | 0,_=>by show 0<_;decide
 | k+1,h=>by
  rw [zhr]
  split
  ·exact Qc (zid p k (by omega)) (qm (by omega))
  ·exact zid p k (by omega)
theorem znT {n:Nat} {p:Nat->Nat->Bool} (hn:n<=64):zZ (zlC n p).to:=zm5 fun i _ _=>zid _ n hn
structure RelOk (n:Nat) (r:RelD):Prop where
 n:r.n=n
 ok:okR r=true
 w:zZ r.to
section
variable {n:Nat} {r a b:RelD}
theorem RelOk.le (h:RelOk n r):n<=48:=by
 have:=(zaN h.ok).2.1;have:=h.n;omega
theorem RelOk.bit (h:RelOk n r) {i j:Nat} (hi:i<48) (hb:zJ r i j=true):i<n/\j<n:=by
 have:=zio h.ok h.w hi hb;have:=h.n;omega
theorem zrc (hn:r.n=n) (h48:n<=48) (h:∀ i j,i<48->zJ r i j=true->i<n/\j<n):okR r=true:=by
 unfold okR;rw [bAT,bAT,dE,dE,Qn];refine⟨by omega,by omega,fun i hi=>?_⟩;have hi:=Ur.1 hi;unfold zbq;rw [bAT,QK,dE,dE,dE];refine⟨?_,?_⟩
 ·rw [zb7,zaW];apply Kf;intro j;rw [QH];by_cases hj:j<64
  ·rw [zbj (zbf _) hj,zci (by omega) (by omega) hj]
   cases hb:(r.to i).testBit j with
   | false=>rfl
   | true =>
    have:=(h i j hi hb).2;rw [Uv (by omega)];rfl
  ·have:=JJ (nL (KI (show jw (r.to i) (zal r.n)<=_ from QB) (show 18446744073709551615-zal r.n<2^64 by omega)) (Kh (show 0<2 by decide) (show 64<=j by omega)));exact this
 ·by_cases hin:i<n
  ·exact .inl (by omega)
  ·refine .inr (Kf fun j=>?_);rw [QH]
   cases hb:(r.to i).testBit j with
   | false=>rfl
   | true=>exact Gt (h i j hi hb).1 hin
theorem RelOk.of (hn:r.n=n) (h48:n<=48) (h:∀ i j,i<48->zJ r i j=true->i<n/\j<n) (hw:zZ r.to):RelOk n r:=⟨hn,zrc hn h48 h,hw⟩
theorem zib (p:Nat->Bool):∀ k j,(zks k p).testBit j=(decide (j<k)&&p j)
 | 0,j=>by
  show (0:Nat).testBit j=_;simp
 | k+1,j=>by
  rw [zhr]
  split
  ·rename_i h;rw [Uu,zib p k j,zae];by_cases e:j=k
   ·subst e;simp [h]
   ·rw [Uk e,UA];congr 1;exact QJ.2 (by omega)
  ·rename_i h;rw [zib p k j];by_cases e:j=k
   ·subst e;have:p j=false:=(by simpa using h);rw [this,Ul,Ul]
   ·congr 1;exact QJ.2 (by omega)
theorem zm6 {f:Nat->Nat} {i j:Nat}:zJ (zbA n f) i j=(decide (i<n)&&(f i).testBit j):=by
 unfold zJ zbA;dsimp only
 split
 ·rename_i h;rw [Uv h];rfl
 ·rename_i h;rw [Uk h,QH];rfl
theorem znU {p:Nat->Nat->Bool} {i j:Nat}:zJ (zlC n p) i j=(decide (i<n)&&(decide (j<n)&&p i j)):=by
 unfold zlC;rw [zm6,zib]
theorem RelOk.pick (h:n<=48) (p:Nat->Nat->Bool):RelOk n (zlC n p):=by
 refine .of rfl h (fun i j _ hb=>?_) (znT (by omega));rw [znU] at hb;simp only [bAT,dE] at hb;exact⟨hb.1,hb.2.1⟩
theorem ze8 (ha:RelOk n a) {i j:Nat} (hi:i<64):zJ (z3 a) i j=(decide (j<n)&&zJ a j i):=by
 unfold zJ;rw [zj6 ha.ok];have e1:decide ((j:Int)<a.n)=decide (j<n):=QJ.2 (by have:=ha.n;omega);have e2:decide (i∈els (a.to j))=(a.to j).testBit i:=by
  cases h:(a.to j).testBit i with
  | true=>exact Uv (zbM.2 ⟨hi,h⟩)
  | false=>exact Uk fun hm=>by rw [(zbM.1 hm).2] at h;cases h
 rw [e1,e2]
theorem RelOk.back (ha:RelOk n a):RelOk n (z3 a):=by
 have h48:=ha.le;have hbit:∀ i j,i<48->zJ (z3 a) i j=true->i<n/\j<n:=fun i j hi h=>by
  rw [ze8 ha (by omega),bAT,dE] at h;exact⟨(ha.bit (by omega) h.2).2,h.1⟩
 refine .of ?_ h48 hbit fun i hi=>?_
 ·unfold z3;rw [Gs ha.ok];exact ha.n
 ·apply QD;intro hge;obtain⟨j,hj1,hj2⟩:=Ja hge;have:=(hbit i j hi hj2).2;omega
end
structure WX (x:ExD):Prop where
 po:zZ x.po.to
 rf:zZ x.rf.to
 co:zZ x.co.to
 dt:zZ x.dt.to
 ct:zZ x.ct.to
 rm:zZ x.rm.to
structure XOk (x:ExD):Prop where
 n:x.ev.length<=48
 po:RelOk x.ev.length x.po
 rf:RelOk x.ev.length x.rf
 co:RelOk x.ev.length x.co
 dt:RelOk x.ev.length x.dt
 ct:RelOk x.ev.length x.ct
 rm:RelOk x.ev.length x.rm
 ev:jk x.ev (qT x.ev)=true
 poE:jp x.po (poR x.ev)=true
 rfR:zad x=true
 coR:zah x (qT x.ev)=true
 dep:j8 x=true
section
variable {n:Nat} {a b:RelD} {x:ExD}
theorem zme {t:Int}:∀ (es:List Ev) (j s k:Nat),(zf8 t j es s).testBit k=true↔s.testBit k=true\/∃ m,m<es.length/\k=j+m/\(es.getD m ev0).th=t
 | [],j,s,k=>by
  show s.testBit k=true↔_;simp
 | e::es,j,s,k=>by
  show (zf8 t (j+1) es (if e.th=t then s|||2^j else s)).testBit k=true↔_;rw [zme es];have hs:(if e.th=t then s|||2^j else s).testBit k=true↔s.testBit k=true\/(k=j/\e.th=t):=by
   split
   ·rename_i h;rw [Uu,zae,QK,dE];simp [h]
   ·rename_i h;simp [h]
  rw [hs];constructor
  ·rintro ((h | ⟨h1,h2⟩) | ⟨m,h1,h2,h3⟩)
   ·exact .inl h
   ·exact .inr ⟨0,by simp,h1,h2⟩
   ·exact .inr ⟨m+1,by simpa using h1,by omega,by simpa using h3⟩
  ·rintro (h | ⟨m,h1,h2,h3⟩)
   ·exact .inl (.inl h)
   ·cases m with
    | zero=>exact .inl (.inr ⟨h2,h3⟩)
    | succ m=>exact .inr ⟨m,by simpa using h1,by omega,by simpa using h3⟩
theorem zfj {key:Nat->Nat} {y:Nat}:∀ r:List Nat,(ja key r y).Perm (y::r)
 | [] => .refl _
 | z::r=>by
  unfold ja
  split
  ·exact ((zfj r).cons z).trans (.swap y z r)
  ·exact .refl _
theorem zhH {key:Nat->Nat}:∀ (l acc:List Nat),(l++acc).Nodup->(l.foldl (fun acc x=>ja key acc x) acc).Nodup
 | [],acc,h=>h
 | y::l,acc,h=>zhH l _ (by
   have p:(l++ja key acc y).Perm (y::l++acc):=((zfj acc).append_left l).trans List.perm_middle;exact p.nodup_iff.2 h)
theorem zkw (l:Nat):(zQ x l).Nodup:=by
 unfold zQ zcG;refine (List.reverse_perm _).nodup_iff.2 (zhH _ _ ?_);rw [QN];exact List.nodup_range.filter _
end
section
variable {n:Nat} {r:RelD} {x:ExD}
theorem zp4 {j:Nat} (h:j<64):ctz (2^j)=j:=by
 have h2:(2:Nat)^j<2^64:=Ki (by decide) h;have:=(zbM.1 (zfK (Nat.ne_of_gt (Nat.pow_pos (by decide))) h2)).2;rw [zae] at this;exact dT this
theorem zk6 {s:Nat} (h:s≠0):∃ j,s.testBit j=true:=by
 refine Jq fun hn=>h (Kf fun j=>?_);rw [QH]
 cases hb:s.testBit j with
 | false=>rfl
 | true=>exact (hn ⟨j,hb⟩).elim
theorem zqX (hrf:RelOk x.ev.length x.rf):zad x=true↔(∀ a b,a<x.ev.length->b<x.ev.length->zJ x.rf a b=true->isW x a=true/\isR x b=true/\(evA x a).l=(evA x b).l/\(evA x a).v=(evA x b).v) /\
  ∀ b,b<x.ev.length->isR x b=true->(∃ j,j<x.ev.length/\zJ x.rf j b=true)/\∀ i j,i<x.ev.length->j<x.ev.length->zJ x.rf i b=true->zJ x.rf j b=true->i=j:=by
 have h48:=hrf.le;have bk:∀ i,i<x.ev.length->∀ j,((z3 x.rf).to i).testBit j=(decide (j<x.ev.length)&&zJ x.rf j i):=fun i hi j=>ze8 hrf (by omega);have w64:∀ i,i<x.ev.length->(z3 x.rf).to i<2^64:=fun i hi=>hrf.back.w i (by omega);unfold zad;rw [Qn];constructor
 ·intro h;have one:∀ b,b<x.ev.length->∀ a,zJ x.rf a b=true->a<x.ev.length->(evA x b).k=1/\a=ctz ((z3 x.rf).to b)/\(evA x a).k=2/\(evA x a).l=(evA x b).l/\(evA x a).v=(evA x b).v:=fun b hb a hab ha=>by
   have h1:=h b (Ur.2 hb);have hbit:((z3 x.rf).to b).testBit a=true:=by rw [bk b hb,hab,Uv ha];rfl
   have h0:¬ (z3 x.rf).to b=0:=fun e=>by rw [e,QH] at hbit;cases hbit
   unfold zbG at h1;by_cases hk:(evA x b).k=1
   ·rw [Gs hk,Gr h0] at h1;by_cases hs:(z3 x.rf).to b=2^ctz ((z3 x.rf).to b)
    ·rw [Gs hs] at h1;have hz:a=ctz ((z3 x.rf).to b):=by
      rw [hs,zae] at hbit;exact dT hbit
     rw [<- hz] at h1;simp only [bAT,dE] at h1;exact⟨hk,hz,h1⟩
    ·rw [Gr hs] at h1;cases h1
   ·rw [Gr hk] at h1;exact (h0 (dT h1)).elim
  refine⟨fun a b ha hb hab=>?_,fun b hb hr=>⟨?_,fun i j hi hj h1 h2=>?_⟩⟩
  ·obtain⟨h1,_,h3,h4⟩:=one b hb a hab ha;exact⟨Uv h3,Uv h1,h4⟩
  ·have h1:=h b (Ur.2 hb);unfold zbG at h1;rw [Gs (dT hr:(evA x b).k=1)] at h1;by_cases h0:(z3 x.rf).to b=0
   ·rw [Gs h0] at h1;cases h1
   ·obtain⟨j,hj⟩:=zk6 h0;rw [bk b hb,bAT,dE] at hj;exact⟨j,hj⟩
  ·exact (one b hb i h1 hi).2.1.trans (one b hb j h2 hj).2.1.symm
 ·rintro⟨h1,h2⟩ b hb;have hb:=Ur.1 hb;unfold zbG;by_cases hk:(evA x b).k=1
  ·rw [Gs hk];obtain⟨⟨j,hj,hj1⟩,hu⟩:=h2 b hb (Uv hk);have hs:(z3 x.rf).to b=2^j:=Kf fun i=>by
    rw [bk b hb,zae];by_cases hij:i=j
    ·rw [hij,hj1,Uv hj,Uv rfl];rfl
    ·rw [Uk hij]
     cases hi:zJ x.rf i b with
     | false=>rw [Ul]
     | true =>
      by_cases hin:i<x.ev.length
      ·exact (hij (hu i j hin hj hi hj1)).elim
      ·rw [Uk hin];rfl
   have hz:ctz ((z3 x.rf).to b)=j:=by rw [hs];exact zp4 (by omega)
   have h0:¬ (z3 x.rf).to b=0:=by rw [hs];exact Nat.ne_of_gt (Nat.pow_pos (by decide))
   rw [Gr h0,hz,Gs hs];obtain⟨a1,_,a3,a4⟩:=h1 j b hj hb hj1;rw [Uv (dT a1:(evA x j).k=2),Uv a3,Uv a4];rfl
  ·rw [Gr hk];refine Uv (Kf fun j=>?_);rw [bk b hb,QH];by_cases hj:j<x.ev.length
   ·cases hjb:zJ x.rf j b with
    | false=>rw [Ul]
    | true=>exact (hk (dT (h1 j b hj hb hjb).2.1)).elim
   ·rw [Uk hj];rfl
end
section
variable {x : ExD}
theorem zda {a b : Nat} (ha : a < 2 ^ 64) (hb : b < 2 ^ 64) : jI a b = 0 ↔ ∀ j, a.testBit j = true → b.testBit j = true := by
  rw [zb7]
  constructor
  · intro h j hj
    have hj64 : j < 64 := by
      refine QD fun hge => ?_
      rw [JJ (KJ ha (Kh (by decide) hge))] at hj
      cases hj
    have := zbj (a := a) hb hj64
    rw [h, QH, hj, UB] at this
    cases hc : b.testBit j with
    | true => rfl
    | false => rw [hc] at this; cases this
  · intro h
    refine Kf fun j => ?_
    rw [QH]
    by_cases hj : j < 64
    · rw [zbj (a := a) hb hj]
      cases hc : a.testBit j with
      | false => rfl
      | true => rw [h j hc]; rfl
    · exact JJ (KJ (KI (show jw a b ≤ a from Ub) ha) (Kh (by decide) (by omega)))
theorem zne (x : ExD) : ∀ k j, ((List.range k).foldl (fun s i => if (evA x i).k = 2 then s ||| 2 ^ i else s) 0).testBit j = (decide (j < k) && isW x j)
  | 0, j => by show (0 : Nat).testBit j = _; simp
  | k + 1, j => by
    rw [QZ, KX, QQ, List.foldl_nil]
    unfold isW at *
    split
    · rename_i h
      rw [Uu, zne x k j, zae]
      by_cases e : j = k
      · subst e
        simp [h, isW]
      · rw [Uk e, UA]
        unfold isW
        congr 1
        exact QJ.2 (by omega)
    · rename_i h
      rw [zne x k j]
      unfold isW
      by_cases e : j = k
      · subst e
        rw [Uk h, Ul, Ul]
      · congr 1
        exact QJ.2 (by omega)
theorem zkg (x : ExD) (j : Nat) : (zaq x).testBit j = (decide (j < x.ev.length) && isW x j) := zne x _ j
theorem zqw (h : x.ev.length ≤ 48) : zaq x < 2 ^ 64 := by
  refine QD fun hge => ?_
  obtain ⟨j, hj1, hj2⟩ := Ja hge
  rw [zkg, Ql, decide_eq_true_eq] at hj2
  omega
structure DepOne (x : ExD) (k : Nat) : Prop where
  w : ∀ j, zJ x.dt k j = true ∨ zJ x.rm k j = true → isW x j = true
  p : ∀ j, zJ x.dt k j = true ∨ zJ x.ct k j = true ∨ zJ x.rm k j = true → isR x k = true ∧ zJ x.po k j = true
  u : ∀ i j, zJ x.rm k i = true → zJ x.rm k j = true → i = j
  l : ∀ j, zJ x.rm k j = true → (evA x j).l = (evA x k).l
theorem zjM (h48 : x.ev.length ≤ 48) (hpo : RelOk x.ev.length x.po) (hdt : RelOk x.ev.length x.dt) (hct : RelOk x.ev.length x.ct) (hrm : RelOk x.ev.length x.rm) : ∀ (m i h : Nat), i + m = x.ev.length →
    (zcc x (zaq x) i (x.ev.drop i) h = true ↔ (∀ k, i ≤ k → k < x.ev.length → DepOne x k) ∧ (∀ k j, i ≤ k → k < x.ev.length → zJ x.rm k j = true → h.testBit j = false) ∧ ∀ k k' j, i ≤ k → k < k' → k' < x.ev.length → zJ x.rm k j = true → zJ x.rm k' j = true → False)
  | 0, i, h, hi => by
    rw [JD (by omega)]
    exact ⟨fun _ => ⟨fun k h1 h2 => by omega, fun k j h1 h2 => by omega, fun k k' j h1 h2 h3 => by omega⟩, fun _ => rfl⟩
  | m + 1, i, h, hi => by
    have hil : i < x.ev.length := by omega
    have hd : x.ev.drop i = evA x i :: x.ev.drop (i + 1) := by
      unfold evA
      rw [Jn, Jw hil, ← JH hil]; rfl
    rw [hd]
    obtain ⟨d, hdd⟩ : ∃ d, d = x.dt.to i := ⟨_, rfl⟩
    obtain ⟨c, hcc⟩ : ∃ c, c = x.ct.to i := ⟨_, rfl⟩
    obtain ⟨r, hrr⟩ : ∃ r, r = x.rm.to i := ⟨_, rfl⟩
    have bd : ∀ j, d.testBit j = zJ x.dt i j := fun j => by rw [hdd]; rfl
    have bc : ∀ j, c.testBit j = zJ x.ct i j := fun j => by rw [hcc]; rfl
    have br : ∀ j, r.testBit j = zJ x.rm i j := fun j => by rw [hrr]; rfl
    have d64 : d < 2 ^ 64 := by rw [hdd]; exact hdt.w i (by omega)
    have c64 : c < 2 ^ 64 := by rw [hcc]; exact hct.w i (by omega)
    have r64 : r < 2 ^ 64 := by rw [hrr]; exact hrm.w i (by omega)
    have hstep : zcc x (zaq x) i (evA x i :: x.ev.drop (i + 1)) h = if d ||| c ||| r = 0 then zcc x (zaq x) (i + 1) (x.ev.drop (i + 1)) h
        else if (evA x i).k = 1 ∧ jI (d ||| r) (zaq x) = 0 ∧ jI (d ||| c ||| r) (x.po.to i) = 0 then
          (if r = 0 then zcc x (zaq x) (i + 1) (x.ev.drop (i + 1)) h
           else if r = 2 ^ ctz r ∧ h.testBit (ctz r) = false ∧ (evA x (ctz r)).l = (evA x i).l then zcc x (zaq x) (i + 1) (x.ev.drop (i + 1)) (h ||| r) else false)
        else false := by rw [hdd, hcc, hrr]; rfl
    rw [hstep]
    have sp : ∀ (P : Nat → Prop), (∀ k, i ≤ k → k < x.ev.length → P k) ↔ P i ∧ ∀ k, i + 1 ≤ k → k < x.ev.length → P k := fun P =>
      ⟨fun h => ⟨h i (UZ _) hil, fun k h1 h2 => h k (by omega) h2⟩, fun h k h1 h2 => by
        by_cases hk : k = i
        · rw [hk]; exact h.1
        · exact h.2 k (by omega) h2⟩
    have one : DepOne x i ↔ (d ||| c ||| r = 0 ∨ ((evA x i).k = 1 ∧ jI (d ||| r) (zaq x) = 0 ∧ jI (d ||| c ||| r) (x.po.to i) = 0)) ∧ (∀ a b, r.testBit a = true → r.testBit b = true → a = b) ∧ (∀ j, r.testBit j = true → (evA x j).l = (evA x i).l) := by
      have inl : ∀ j, zJ x.dt i j = true ∨ zJ x.rm i j = true → j < x.ev.length := fun j hj => by
        rcases hj with hj | hj
        · exact (hdt.bit (by omega) hj).2
        · exact (hrm.bit (by omega) hj).2
      constructor
      · rintro ⟨w, p, u, l⟩
        refine ⟨?_, fun a b ha hb => u a b (by rw [← br]; exact ha) (by rw [← br]; exact hb), fun j hj => l j (by rw [← br]; exact hj)⟩
        by_cases h0 : d ||| c ||| r = 0
        · exact .inl h0
        · obtain ⟨j, hj⟩ := zk6 h0
          have hor : ∀ j, (d ||| c ||| r).testBit j = true → zJ x.dt i j = true ∨ zJ x.ct i j = true ∨ zJ x.rm i j = true := fun j hj => by
            rw [Uu, Uu, bd, bc, br, QK, QK] at hj
            rcases hj with (hj | hj) | hj
            · exact .inl hj
            · exact .inr (.inl hj)
            · exact .inr (.inr hj)
          refine .inr ⟨Qg (p j (hor j hj)).1, (zda (Qc d64 r64) (zqw h48)).2 fun j hj => ?_, (zda (Qc (Qc d64 c64) r64) (hpo.w i (by omega))).2 fun j hj => (p j (hor j hj)).2⟩
          rw [Uu, bd, br, QK] at hj
          rw [zkg, w j hj, Uv (inl j hj)]; rfl
      · rintro ⟨h1, u, l⟩
        have bits : ∀ j, zJ x.dt i j = true ∨ zJ x.ct i j = true ∨ zJ x.rm i j = true → (d ||| c ||| r).testBit j = true := fun j hj => by
          rw [Uu, Uu, bd, bc, br]
          rcases hj with hj | hj | hj <;> rw [hj] <;> simp
        have nz : ∀ j, zJ x.dt i j = true ∨ zJ x.ct i j = true ∨ zJ x.rm i j = true → (evA x i).k = 1 ∧ jI (d ||| r) (zaq x) = 0 ∧ jI (d ||| c ||| r) (x.po.to i) = 0 := fun j hj => by
          rcases h1 with h1 | h1
          · have := bits j hj
            rw [h1, QH] at this
            cases this
          · exact h1
        refine ⟨fun j hj => ?_, fun j hj => ?_, fun a b ha hb => u a b (by rw [br]; exact ha) (by rw [br]; exact hb), fun j hj => l j (by rw [br]; exact hj)⟩
        · have h2 := (nz j (by rcases hj with hj | hj; exact .inl hj; exact .inr (.inr hj))).2.1
          have h3 := (zda (Qc d64 r64) (zqw h48)).1 h2 j (by
            rw [Uu, bd, br]
            rcases hj with hj | hj <;> rw [hj] <;> simp)
          rw [zkg, Ql] at h3
          exact h3.2
        · have h2 := nz j hj
          exact ⟨Uv h2.1, (zda (Qc (Qc d64 c64) r64) (hpo.w i (by omega))).1 h2.2.2 j (bits j hj)⟩
    have hr0 : d ||| c ||| r = 0 → r = 0 := fun h0 => Kf fun j => by
      have := Gm (fun s => s.testBit j) h0
      simp only [Uu, QH, Bool.or_eq_false_iff] at this
      rw [QH]; exact this.2
    have qr : ∀ h2, (∀ k j, i + 1 ≤ k → k < x.ev.length → zJ x.rm k j = true → (h2.testBit j = false ↔ h.testBit j = false ∧ r.testBit j = false)) → (∀ j, r.testBit j = true → h.testBit j = false) → DepOne x i →
        ((zcc x (zaq x) (i + 1) (x.ev.drop (i + 1)) h2 = true) ↔ (∀ k, i ≤ k → k < x.ev.length → DepOne x k) ∧ (∀ k j, i ≤ k → k < x.ev.length → zJ x.rm k j = true → h.testBit j = false) ∧ ∀ k k' j, i ≤ k → k < k' → k' < x.ev.length → zJ x.rm k j = true → zJ x.rm k' j = true → False) := fun h2 hh hf hi1 => by
      rw [zjM h48 hpo hdt hct hrm m (i + 1) h2 (by omega), sp (DepOne x)]
      constructor
      · rintro ⟨a1, a2, a3⟩
        refine ⟨⟨hi1, a1⟩, fun k j k1 k2 k3 => ?_, fun k k' j k1 k2 k3 k4 k5 => ?_⟩
        · by_cases hk : k = i
          · subst hk
            exact hf j (by rw [br]; exact k3)
          · exact ((hh k j (by omega) k2 k3).1 (a2 k j (by omega) k2 k3)).1
        · by_cases hk : k = i
          · subst hk
            have := ((hh k' j (by omega) k3 k5).1 (a2 k' j (by omega) k3 k5)).2
            rw [br, k4] at this
            cases this
          · exact a3 k k' j (by omega) k2 k3 k4 k5
      · rintro ⟨a1, a2, a3⟩
        refine ⟨a1.2, fun k j k1 k2 k3 => (hh k j k1 k2 k3).2 ⟨a2 k j (by omega) k2 k3, ?_⟩, fun k k' j k1 k2 k3 k4 k5 => a3 k k' j (by omega) k2 k3 k4 k5⟩
        cases hb : r.testBit j with
        | false => rfl
        | true => exact (a3 i k j (UZ _) (by omega) k2 (by rw [← br]; exact hb) k3).elim
    by_cases h0 : d ||| c ||| r = 0
    · rw [Gs h0]
      have r0 := hr0 h0
      refine qr h (fun k j _ _ _ => ?_) (fun j hj => ?_) (one.2 ⟨.inl h0, fun a b ha => ?_, fun j hj => ?_⟩)
      · rw [r0, QH]; simp
      · rw [r0, QH] at hj; cases hj
      · rw [r0, QH] at ha; cases ha
      · rw [r0, QH] at hj; cases hj
    rw [Gr h0]
    by_cases hc2 : (evA x i).k = 1 ∧ jI (d ||| r) (zaq x) = 0 ∧ jI (d ||| c ||| r) (x.po.to i) = 0
    · rw [Gs hc2]
      by_cases r0 : r = 0
      · rw [Gs r0]
        refine qr h (fun k j _ _ _ => ?_) (fun j hj => ?_) (one.2 ⟨.inr hc2, fun a b ha => ?_, fun j hj => ?_⟩)
        · rw [r0, QH]; simp
        · rw [r0, QH] at hj; cases hj
        · rw [r0, QH] at ha; cases ha
        · rw [r0, QH] at hj; cases hj
      · rw [Gr r0]
        by_cases hc3 : r = 2 ^ ctz r ∧ h.testBit (ctz r) = false ∧ (evA x (ctz r)).l = (evA x i).l
        · rw [Gs hc3]
          have bz : ∀ j, r.testBit j = true → j = ctz r := fun j hj => by
            rw [hc3.1, zae] at hj
            exact Qg hj
          refine qr (h ||| r) (fun k j _ _ _ => ?_) (fun j hj => ?_) (one.2 ⟨.inr hc2, fun a b ha hb => (bz a ha).trans (bz b hb).symm, fun j hj => ?_⟩)
          · rw [Uu, Bool.or_eq_false_iff]
          · rw [bz j hj]; exact hc3.2.1
          · rw [bz j hj]; exact hc3.2.2
        · rw [Gr hc3]
          refine ⟨fun h => (by cases h), fun hall => ?_⟩
          have ho := one.1 (hall.1 i (UZ _) hil)
          obtain ⟨j, hj⟩ := zk6 r0
          have hz := (zbM.1 (zfK r0 r64)).2
          refine (hc3 ⟨Kf fun a => ?_, hall.2.1 i _ (UZ _) hil (by rw [← br]; exact hz), ho.2.2 _ hz⟩).elim
          rw [zae]
          by_cases ha : a = ctz r
          · rw [ha, hz, Uv rfl]
          · rw [Uk ha]
            cases hb : r.testBit a with
            | false => rfl
            | true => exact (ha (ho.2.1 a _ hb hz)).elim
    · rw [Gr hc2]
      refine ⟨fun h => (by cases h), fun hall => ?_⟩
      rcases (one.1 (hall.1 i (UZ _) hil)).1 with h1 | h1
      · exact (h0 h1).elim
      · exact (hc2 h1).elim
end
def twl (s:List Nat) (i:Nat):List Nat:=s.takeWhile fun y => !decide (y=i)
theorem zcF (a:Nat) (s:List Nat) (i:Nat):twl (a::s) i=if a=i then [] else a::twl s i:=by
 unfold twl;rw [Ks];by_cases h:a=i
 ·rw [Gs h,Gr (by simp [h])]
 ·rw [Gr h,Gs (by simp [h])]
theorem zfz:∀ {s:List Nat} {i j:Nat},j∈twl s i->j∈s/\j≠i
 | [],i,j,h=>by cases h
 | a::s,i,j,h=>by
  rw [zcF] at h;by_cases ha:a=i
  ·rw [Gs ha] at h;cases h
  ·rw [Gr ha] at h;rcases UF.1 h with rfl | h
   ·exact⟨KD,ha⟩
   ·exact⟨JZ _ (zfz h).1,(zfz h).2⟩
theorem zhg:∀ {s:List Nat} {i j k:Nat},j∈twl s i->k∈twl s j->k∈twl s i
 | [],i,j,k,h,_=>by cases h
 | a::s,i,j,k,h1,h2=>by
  rw [zcF] at h1 h2 ⊢;by_cases ha:a=i
  ·rw [Gs ha] at h1;cases h1
  ·rw [Gr ha] at h1 ⊢;by_cases hb:a=j
   ·rw [Gs hb] at h2;cases h2
   ·rw [Gr hb] at h2;rcases UF.1 h2 with rfl | h2
    ·exact KD
    ·rcases UF.1 h1 with h1 | h1
     ·exact (hb h1.symm).elim
     ·exact JZ _ (zhg h1 h2)
theorem zgu:∀ (l:List Nat) (f:Nat->Nat) (b:Nat),l.Nodup->∀ i j,(zgv l f b i).testBit j=if i∈l then (b.testBit j||decide (j∈twl l i)) else (f i).testBit j
 | [],f,b,_,i,j=>by rw [Gr Qz];rfl
 | a::l,f,b,hn,i,j=>by
  have hn2:=QY.1 hn;show (zgv l (upd f a b) (b|||2^a) i).testBit j=_;rw [zgu l _ _ hn2.2,zcF];by_cases hia:i=a
  ·subst hia;rw [Gr hn2.1,Gs KD,zM,Gs rfl];simp
  ·rw [Gr (show ¬ a=i from fun e=>hia e.symm)];by_cases hi:i∈l
   ·rw [Gs hi,Gs (JZ _ hi),Uu,zae,Bool.or_assoc];congr 1;rw [Bool.eq_iff_iff,QK,dE,dE,dE,UF]
   ·rw [Gr hi,Gr (fun h=>by rcases UF.1 h with h | h;exact hia h;exact hi h),qp _ _ hia]
theorem zgA {key:Nat->Nat} {y:Nat}:∀ {r:List Nat},r.Pairwise (fun a b=>key a<=key b)->(ja key r y).Pairwise (fun a b=>key a<=key b)
 | [],_=>List.pairwise_singleton _ _
 | z::r,h=>by
  have h2:=List.pairwise_cons.1 h;unfold ja
  split
  ·rename_i hlt;refine List.pairwise_cons.2 ⟨fun a ha=>?_,zgA h2.2⟩;rcases (zdI r).1 ha with rfl | ha
   ·omega
   ·exact h2.1 a ha
  ·rename_i hlt;refine List.pairwise_cons.2 ⟨fun a ha=>?_,h⟩;rcases UF.1 ha with rfl | ha
   ·omega
   ·have:=h2.1 a ha;omega
theorem zlj {key:Nat->Nat}:∀ (l acc:List Nat),acc.Pairwise (fun a b=>key a<=key b)->(l.foldl (fun acc x=>ja key acc x) acc).Pairwise (fun a b=>key a<=key b)
 | [],_,h=>h
 | y::l,acc,h=>zlj l _ (zgA h)
theorem zh5 (key:Nat->Nat) (l:List Nat):(zb0 key l).Pairwise (fun a b=>key a<=key b):=zlj l [] .nil
theorem zmo {key:Nat->Nat} {l:List Nat} {a:Nat}:a∈zb0 key l↔a∈l:=by
 have:a∈(zb0 key l).reverse↔a∈l:=zho
 rwa [List.mem_reverse] at this
theorem zfb {key:Nat->Nat}:∀ {s:List Nat},s.Pairwise (fun a b=>key a<=key b)->s.Nodup->(∀ a b,a∈s->b∈s->a≠b->key a≠key b)->s.Pairwise (fun a b=>key a<key b)
 | [],_,_,_ => .nil
 | a::s,h,hn,hi=>by
  have h2:=List.pairwise_cons.1 h;have hn2:=QY.1 hn;refine List.pairwise_cons.2 ⟨fun b hb=>?_,zfb h2.2 hn2.2 fun c d hc hd=>hi c d (JZ _ hc) (JZ _ hd)⟩;have h3:=h2.1 b hb;have h4:=hi a b KD (JZ _ hb) (fun e=>hn2.1 (by rw [e];exact hb));omega
theorem zl4 {f g:Nat->Bool}:∀ {n:Nat},(∀ i,i<n->f i=true->g i=true->False)->zew f n+zew g n=zew (fun i=>f i||g i) n
 | 0,_=>rfl
 | n+1,h=>by
  have ih:=zl4 (f:=f) (g:=g) (n:=n) fun i hi=>h i (by omega);have:=h n (QE _);rw [zcd,zcd,zcd,<- ih]
  cases hf:f n <;> cases hg:g n <;> simp [hf,hg] at this ⊢ <;> omega
theorem zoK {a:Nat}:∀ {n:Nat},a<n->zew (fun b=>decide (b=a)) n=1
 | 0,h=>Gt h (Ue _)
 | n+1,h=>by
  rw [zcd];by_cases e:n=a
  ·subst e;rw [Gs (Uv rfl),zoJ fun k hk=>Uk (by omega)]
  ·rw [Gr (by simp [e]),zoK (by omega)]
theorem zjU {f g:Nat->Bool}:∀ {n:Nat},(∀ i,i<n->f i=true->g i=true)->zew f n<=zew g n
 | 0,_=>UZ _
 | n+1,h=>by
  have ih:=zjU (f:=f) (g:=g) (n:=n) fun i hi=>h i (by omega);have:=h n (QE _);rw [zcd,zcd]
  cases hf:f n <;> cases hg:g n <;> simp [hf,hg] at this ⊢ <;> omega
theorem zkW {f g:Nat->Bool} {n j:Nat} (h:∀ i,i<n->f i=true->g i=true) (hj:j<n) (h1:f j=false) (h2:g j=true):zew f n<zew g n:=by
 have e:=zl4 (f:=f) (g:=fun b=>decide (b=j)) (n:=n) fun i hi hf hd=>by
  have:i=j:=dT hd;rw [this,h1] at hf;cases hf
 rw [zoK hj] at e;have:=zjU (f:=fun i=>f i||decide (i=j)) (g:=g) (n:=n) fun i hi hor=>by
  rw [QK,dE] at hor;rcases hor with h3 | h3
  ·exact h i hi h3
  ·rw [h3];exact h2
 omega
theorem zjz (s:Nat):zbv s=zew (fun j=>s.testBit j) 64:=rfl
section
variable {x:ExD}
abbrev sG (x:ExD) (l:Nat):List Nat:=zb0 (zbw x) (qb x l)
theorem znE (l:Nat):(sG x l).Nodup:=by
 have:=zkw (x:=x) l;exact (List.reverse_perm _).nodup_iff.1 this
theorem znO (l:Nat):zQ x l=(sG x l).reverse:=rfl
theorem zfF {l a:Nat}:a∈qb x l↔a<x.ev.length/\isW x a=true/\(evA x a).l.toNat=l:=by
 unfold qb isW;rw [QW,Ur,bAT,dE,dE]
def znL (x:ExD):Nat->Nat->RelD×(Nat->UInt8)->RelD×(Nat->UInt8)
 | 0,_,p=>p
 | m+1,l,p=>znL x m (l+1) (j4 (zQ x l) p.1,upd p.2 l (zdp x.ev (zQ x l)))
theorem zjS:∀ (m l:Nat) (p q:RelD×(Nat->UInt8)),zha x m l p=some q↔(∀ k,l<=k->k<l+m->(zQ x k).headD 48=k)/\q=znL x m l p
 | 0,l,p,q=>⟨fun h=>⟨fun k h1 h2=>by omega,(Ui h).symm⟩,fun h=>by rw [h.2];rfl⟩
 | m+1,l,p,q=>by
  unfold zha;by_cases hd:(zQ x l).headD 48=l
  ·rw [Gs hd,zjS m (l+1)];refine⟨fun h=>⟨fun k h1 h2=>?_,h.2⟩,fun h=>⟨fun k h1 h2=>h.1 k (by omega) (by omega),h.2⟩⟩;by_cases hk:k=l
   ·rw [hk];exact hd
   ·exact h.1 k (by omega) (by omega)
  ·rw [Gr hd];exact⟨fun h=>(by cases h),fun h=>(hd (h.1 l (UZ _) (by omega))).elim⟩
end
def fct:Nat->Nat
 | 0=>1
 | n+1=>(n+1)*fct n
theorem zdf:∀ n,1<=fct n
 | 0=>UZ _
 | n+1=>Nat.mul_pos (Nat.succ_pos n) (zdf n)
theorem zgJ {a b:Nat} (h:a<=b):fct a<=fct b:=by
 induction b with
 | zero=>rw [Nat.le_zero.1 h];exact UZ _
 | succ b ih =>
  rcases Nat.lt_or_ge b a with h1 | h1
  ·rw [show a=b+1 by omega];exact UZ _
  ·refine UP (ih h1) ?_;show fct b<=(b+1)*fct b;exact Nat.le_mul_of_pos_left _ (Nat.succ_pos b)
theorem ze1 (s:Nat):(els s).Nodup:=by
 unfold els;exact List.Pairwise.filter _ List.nodup_range
theorem zeo (before:Nat->Nat):∀ (n left:Nat) (l x:List Nat),left<2^64->x∈zaj before n left l->∃ s,x=l++s/\s.Perm (els left)/\∀ a t,s=a::t->before a&&&left=0
 | 0,left,l,x,hl,h=>by
  unfold zaj at h
  split at h
  ·rename_i h0;rw [KE] at h;exact⟨[],by rw [h,QN],by rw [h0,zaY],fun a t e=>by cases e⟩
  ·cases h
 | n+1,left,l,x,hl,h=>by
  unfold zaj at h
  split at h
  ·rename_i h0;rw [KE] at h;exact⟨[],by rw [h,QN],by rw [h0,zaY],fun a t e=>by cases e⟩
  ·obtain⟨a,ha,h⟩:=List.mem_flatMap.1 h
   split at h
   ·rename_i hb;obtain⟨s,hs,hp,_⟩:=zeo before n _ _ x (zay hl) h;rw [zep hl ha] at hp;refine⟨a::s,by rw [hs,KT];rfl,?_,fun b t e=>by cases e;exact hb⟩;refine (List.Perm.cons a hp).trans ?_;have hn:=ze1 left;generalize els left=L at ha hn;clear hp hs h hl
    induction L with
    | nil=>cases ha
    | cons y r ih =>
     have hn2:=QY.1 hn;rcases UF.1 ha with e | e
     ·subst e;rw [Qr,Gr (by simp),List.filter_eq_self.2 fun z hz=>by
       have:z≠a:=fun e=>hn2.1 (by rw [<- e];exact hz);simp [this]]
     ·have hya:y≠a:=fun e2=>hn2.1 (by rw [e2];exact e);rw [Qr,Gs (by simp [hya])];exact (List.Perm.swap y a _).trans (List.Perm.cons y (ih e hn2.2))
   ·cases h
theorem zlQ {α β:Type} {f:α->List β} {b:Nat}:∀ {l:List α},(∀ a∈l,(f a).length<=b)->(l.flatMap f).length<=l.length*b
 | [],_=>by simp
 | a::l,h=>by
  rw [KW,lap,Qw,UT];have:=h a KD;have:=zlQ (l:=l) fun x hx=>h x (JZ _ hx);omega
theorem zhM (before:Nat->Nat):∀ (n left:Nat) (l:List Nat),left<2^64->(zaj before n left l).length<=fct (els left).length
 | 0,left,l,hl=>by
  unfold zaj
  split
  ·exact zdf _
  ·exact Gc _
 | n+1,left,l,hl=>by
  unfold zaj
  split
  ·exact zdf _
  ·have hne:(els left).length=0\/∃ m,(els left).length=m+1:=by
    cases (els left).length with
    | zero=>exact .inl rfl
    | succ m=>exact .inr ⟨m,rfl⟩
   rcases hne with h0 | ⟨m,hm⟩
   ·rw [List.length_eq_zero_iff.1 h0];exact Gc _
   ·rw [hm];refine UP (zlQ (b:=fct m) fun a ha=>?_) (by rw [hm];exact UZ _)
    split
    ·refine UP (zhM before n _ _ (zay hl)) (zgJ ?_);have:=zaB hl ha;rw [zb7];omega
    ·exact Gc _
theorem zcb {f:Nat->List (List Nat)}:∀ {l:List Nat},l.Nodup->(∀ a∈l,a≠0->f a=[])->(l.flatMap f).length<=(f 0).length
 | [],_,_=>Gc _
 | a::l,hn,h=>by
  have hn2:=QY.1 hn;rw [KW,lap];by_cases e:a=0
  ·subst e;have:l.flatMap f=[]:=List.flatMap_eq_nil_iff.2 fun x hx=>h x (JZ _ hx) fun e=>hn2.1 (by rw [<- e];exact hx);rw [this];exact UZ _
  ·rw [h a KD e];have:=zcb hn2.2 fun x hx=>h x (JZ _ hx);simpa using this
section
variable {n:Nat}
theorem zp5 (hn:n<=48):RelOk n (crs n):=⟨rfl,zoG n hn,fun i hi=>zl1 n i hi⟩
theorem zjO (hn:n<=48) {a:Nat} (ha:a<n) (h0:a≠0):((z3 (crs n)).to a).testBit 0=true:=by
 have h:=ze8 (zp5 hn) (i:=a) (j:=0) (by omega);unfold zJ at h;rw [h,Uv (by omega),UB];show (if 0<n then (if Nat.testBit 1 0 then jI (zab n) 1&&&zab n else 0) else 0).testBit a=true;rw [Gs (by omega),Gs (by decide),Uf];have hb:(zab n).testBit a=true:=by
  rw [zaW,zci (by omega) (by omega) (by omega)];exact Uv (by omega)
 rw [hb,Bool.and_true,zb7];have:jw (zab n) 1=jw (zab n) (2^0):=rfl;rw [this,zbj (by decide) (by omega),hb,Kt];simp;omega
theorem zgf (h1:1<=n) (hn:n<=48) {o:List Nat} (h:o∈zbt (crs n)):o.Perm (List.range n)/\∃ t,o=0::t:=by
 unfold zbt at h
 split at h
 ·obtain⟨s,hs,hp,hf⟩:=zeo _ _ _ _ _ (zeA n) h;rw [QX] at hs;subst hs;have e:els (zab ((n:Nat):Int))=List.range n:=by rw [zaW];exact zer (by omega)
  have hp:o.Perm (List.range n):=by rw [<- e];exact hp
  refine⟨hp,?_⟩
  cases o with
  | nil=>have:=hp.length_eq;simp at this;omega
  | cons a t =>
   by_cases h0:a=0
   ·exact⟨t,by rw [h0]⟩
   ·have ha:a<n:=Ur.1 (hp.subset KD);have h2:=hf a t rfl;have h3:=zjO hn ha h0;have h4:(zab ((n:Nat):Int)).testBit 0=true:=by
     rw [zaW,zci (by omega) (by omega) (by omega)];exact Uv (by omega)
    have h5:((z3 (crs n)).to a&&&zab ((n:Nat):Int)).testBit 0=true:=(by rw [Uf,h3,h4];rfl);have h6:((z3 (crs n)).to a&&&zab ((n:Nat):Int))=0:=h2;rw [h6] at h5;simp at h5
 ·cases h
theorem zmG (h1:1<=n) (hn:n<=48):(zbt (crs n)).length<=fct (n-1):=by
 unfold zbt
 split
 ·have e:els (zab ((n:Nat):Int))=List.range n:=by rw [zaW];exact zer (by omega)
  have e0:(0:Nat)∈els (zab ((n:Nat):Int)):=by rw [e];exact Ur.2 (by omega)
  show (zaj (z3 (crs n)).to 64 (zab ((n:Nat):Int)) []).length<=_;unfold zaj
  split
  ·exact zdf _
  ·refine UP (zcb (ze1 _) fun a ha h0=>?_) ?_
   ·have ha:a<n:=(by rw [e] at ha;exact Ur.1 ha);refine Gr fun h2=>?_;have h3:=zjO hn ha h0;have h4:(zab ((n:Nat):Int)).testBit 0=true:=by
     rw [zaW,zci (by omega) (by omega) (by omega)];exact Uv (by omega)
    have h5:((z3 (crs n)).to a&&&zab ((n:Nat):Int)).testBit 0=true:=(by rw [Uf,h3,h4];rfl);rw [h2] at h5;simp at h5
   ·split
    ·refine UP (zhM _ _ _ _ (zay (zeA n))) (zgJ ?_);have h6:=zaB (zeA n) e0;rw [e,KZ] at h6;rw [zb7];omega
    ·exact Gc _
 ·exact Gc _
end
theorem zmO (w:List Nat):(List.range w.length).map (fun k=>w.getD k 0)=w:=by
 apply KU;intro i;rw [KY];by_cases h:i<w.length
 ·rw [Kl h,gE h];show some (w.getD i 0)=_;rw [gDe,gE h];rfl
 ·rw [JL (by simpa using h),JL (by simpa using h)];rfl
theorem zhu {w rk:List Nat} (h1:1<=w.length) (hn:w.length<=48) (h:rk∈zL w):rk.Perm w/\rk.headD 48=w.headD 48:=by
 unfold zL at h;dsimp only at h
 split at h
 ·obtain⟨o,ho,rfl⟩:=UM.1 h;obtain⟨hp,t,ht⟩:=zgf h1 hn ho;refine⟨?_,?_⟩
  ·have:=hp.map fun k=>w.getD k 0;rw [zmO] at this;exact this
  ·rw [ht];show w.getD 0 0=_
   cases w with
   | nil=>simp at h1
   | cons a r=>rfl
 ·cases h
theorem zf6 {w:List Nat} (h1:1<=w.length) (hn:w.length<=48):(zL w).length<=fct (w.length-1)/\(zL w).length<=10000:=by
 unfold zL;dsimp only
 split
 ·rename_i h;rw [QR];exact⟨zmG h1 hn,h⟩
 ·exact⟨Gc _,Gc _⟩
end Go.Proofs.YtpalcnbhkigagaaGreatDoor
namespace Go.Sei
def za5 (ns:List Nat):Nat:=ns.foldl (· * ·) 1
theorem zkz (ns:List Nat) (n:Nat):za5 (ns++[n])=za5 ns*n:=by
 unfold za5;rw [KX];rfl
def zn8 (init:List UInt8) (Ts:List (List PathD)):List MixD:=(z8 (Ts.map List.length)).filterMap fun ds=>zgq init (jd Ts ds)
theorem zf9:∀ (Ts:List (List PathD)) (ds:List Nat) (T:List PathD) (d:Nat),Ts.length=ds.length->jd (Ts++[T]) (ds++[d])=jd Ts ds++(match T[d]? with | some P=>[P] | none=>[])
 | [],[],T,d,_=>by
  show (match T[d]? with | some P=>[P] | none=>[])++[]=_;rw [QN];rfl
 | [],_::_,_,_,h=>by simp at h
 | _::_,[],_,_,h=>by simp at h
 | A::Ts,e::ds,T,d,h=>by
  show (match A[e]? with | some P=>[P] | none=>[])++jd (Ts++[T]) (ds++[d])=((match A[e]? with | some P=>[P] | none=>[])++jd Ts ds)++_;rw [zf9 Ts ds T d (by simpa using h),KT]
theorem zkA (ns:List Nat) (n:Nat):zR (ns++[n])=zR ns*n:=by
 rw [zb5];show _*(n*1)=_;rw [Ga]
theorem zeY:∀ (ns:List Nat) (a:Nat),ns.foldl (· * ·) a=a*zR ns
 | [],a=>(Ga a).symm
 | n::ns,a=>by
  show ns.foldl (· * ·) (a*n)=a*(n*zR ns);rw [zeY ns,UH]
theorem zeP:∀ ns:List Nat,zR ns.reverse=za5 ns:=fun ns=>by
 have h:∀ l:List Nat,zR l.reverse=zR l:=fun l=>by
  induction l with
  | nil=>rfl
  | cons n l ih =>
   rw [Qa,zkA,ih];exact UQ _ _
 rw [h];unfold za5;rw [zeY,Gb]
end Go.Sei
namespace Go.Proofs.YtpalcnbhkigagaaGreatDoor
open Go.Vc Go.RowKit Go.Sei
structure MixX where
 m:MixD
 q:OA
 c:Nat
 p1:OA
 c1:Nat
 p2:OA
 c2:Nat
 p3:OA
 c3:Nat
 xs:List zao
 ys:List zao
def zmN (x:MixX):List Value:=exC x.m.base x.q x.c++[.slice x.p1 x.m.rs.length x.c1,.slice x.p2 x.xs.length x.c2,.slice x.p3 x.ys.length x.c3]
theorem zoa (x:MixX):(zmN x).length=336:=by
 unfold zmN;rw [lap,zC];rfl
theorem zjw (x:MixX):(zmN x).all Value.oneCell'=true:=by
 unfold zmN;rw [QM,zaU];rfl
def zg5:Enc MixX:=⟨zmN,336,zoa,by decide,fun a u hu=>Qn.1 (zjw a) u hu⟩
structure NInM (B:Nat) (F:Nat->Prop) (Y:Wd) (x:MixX):Prop where
 e2:x.xs.map (·.1)=x.m.rs.map (·.2)
 e3:x.ys.map (·.1)=x.m.wr
 ev:RowIn evE 60 B F Y x.q x.c x.m.base.ev
 r1:RowIn zu 3 B F Y x.p1 x.c1 (x.m.rs.map (·.1))
 r2:RowIn qW 66 B F Y x.p2 x.c2 x.xs
 n2:∀ y∈x.xs,RowIn zu 3 B F Y y.2.1 y.2.2 y.1
 r3:RowIn qW 66 B F Y x.p3 x.c3 x.ys
 n3:∀ y∈x.ys,RowIn zu 3 B F Y y.2.1 y.2.2 y.1
theorem NInM.same {B:Nat} {F G:Nat->Prop} {Y Z:Wd} {x:MixX} (h:NInM B F Y x) (k:∀ {α:Type} {E:Enc α} {T c:Nat} {q:OA} {l:List α},T≠87->T≠81->T≠4->RowIn E T B F Y q c l->RowIn E T B G Z q c l):NInM B G Z x :=
 ⟨h.e2,h.e3,k (by decide) (by decide) (by decide) h.ev,k (by decide) (by decide) (by decide) h.r1,k (by decide) (by decide) (by decide) h.r2,fun y hy=>k (by decide) (by decide) (by decide) (h.n2 y hy),k (by decide) (by decide) (by decide) h.r3,fun y hy=>k (by decide) (by decide) (by decide) (h.n3 y hy)⟩
theorem NInM.lower {B B':Nat} {F:Nat->Prop} {Y:Wd} {x:MixX} (h:NInM B F Y x) (hB:B'<=B):NInM B' (fun k=>B'<=k) Y x:=by
 have k:∀ {α:Type} {E:Enc α} {T c:Nat} {q:OA} {l:List α},RowIn E T B F Y q c l->RowIn E T B' (fun k=>B'<=k) Y q c l:=fun {α E T c q l} hr=>⟨hr.own.lower hB,fun a ha=>(zp (hr.own.lower hB) ha).1⟩;exact⟨h.e2,h.e3,k h.ev,k h.r1,k h.r2,fun y hy=>k (h.n2 y hy),k h.r3,fun y hy=>k (h.n3 y hy)⟩
theorem zhB (B:Nat):zhX 87 81 (NInM B):=by
 rintro F G Y Z x h hs hg;refine h.same fun {α E T c q l} t1 t2 _ hr=>⟨hr.own.same fun a ha=>?_,fun a ha=>hg _ (hr.inF a ha)⟩;obtain⟨_,_,cur,hc⟩:=zp hr.own ha;exact hs _ cur _ (hr.inF a ha) hc t1 t2
abbrev TpR:=List zc0×OA×Nat
def tpE:Enc TpR where
 sz:=1
 enc x:=[.slice x.2.1 x.1.length x.2.2]
 len x:=rfl
 one x v hv:=by
  simp at hv;subst hv;rfl
 pos:=by decide
structure MxS (B:Nat) (Z:Wd) (L bP:Nat) (ss:List Nat) (ps:OA) (cs:Nat) (ts:List TpR) (pT:OA) (cT:Nat):Prop where
 f0:Z.heap[L]?=some (.cells #[At0 bP] 84 (0,0))
 f1:Z.heap[L+1]?=some (.cells #[.slice none 0 0] 81 (0,0))
 f2:Z.heap[L+2]?=some (.cells #[.bool false] 4 (0,0))
 f3:Z.heap[L+3]?=some (.cells #[.slice pT ts.length cT] 118 (0,0))
 own:OwnS zu 3 B Z ps cs ss
 rk:OwnS tpE 78 B Z pT cT ts
 n1:∀ z∈ts,OwnS jG 73 B Z z.2.1 z.2.2 z.1
 n2:∀ z∈ts,∀ x∈z.1,PthO B Z x
theorem PthO.same {B:Nat} {Y Z:Wd} {x:zc0} (h:PthO B Y x) (k:∀ {α:Type} {E:Enc α} {T c:Nat} {q:OA} {l:List α},T=60\/T=184->OwnS E T B Y q c l->OwnS E T B Z q c l):PthO B Z x :=
 ⟨k (.inl rfl) h.1,k (.inr rfl) h.2.1,k (.inr rfl) h.2.2.1,k (.inr rfl) h.2.2.2⟩
theorem MxS.below {B:Nat} {Z Y:Wd} {L bP:Nat} {ss:List Nat} {ps:OA} {cs:Nat} {ts:List TpR} {pT:OA} {cT:Nat} (h:MxS B Z L bP ss ps cs ts pT cT) (hb:Bw Z Y):MxS B Y L bP ss ps cs ts pT cT :=
 ⟨zb hb h.f0,zb hb h.f1,zb hb h.f2,zb hb h.f3,h.own.below hb,h.rk.below hb,fun z hz=>(h.n1 z hz).below hb,fun z hz x hx=>(h.n2 z hz x hx).same fun {α E T c q l} _ ho=>ho.below hb⟩
theorem MxS.size {B:Nat} {Z Y:Wd} {L bP n:Nat} {ss:List Nat} {ps ps':OA} {cs cs':Nat} {ts:List TpR} {pT:OA} {cT:Nat} (h:MxS B Z L bP ss ps cs ts pT cT) (ho:OwnS zu 3 B Y ps' cs' (ss++[n])) (g:Z.grownBy Y (ps.map Addr.block)):MxS B Y L bP (ss++[n]) ps' cs' ts pT cT :=
 ⟨z9 h.f0 h.own (by decide) g,z9 h.f1 h.own (by decide) g,z9 h.f2 h.own (by decide) g,z9 h.f3 h.own (by decide) g,ho,jD h.rk h.own (by decide) g,fun z hz=>jD (h.n1 z hz) h.own (by decide) g,fun z hz x hx=>(h.n2 z hz x hx).same fun {α E T c q l} ht hoo=>jD hoo h.own (by rcases ht with rfl | rfl <;> decide) g⟩
theorem zsN {B c:Nat} {V1:Wd} {p:OA} {l:List TpR} {y:TpR} {a:Addr} (ho:OwnS tpE 78 B V1 p c l) (ha:zw V1 a ([y].flatMap tpE.enc)) (hB:B<=V1.heap.size) (hl:l.length<=100000) {K:Value->Wd->Prop}
  (h:∀ p' c' w',OwnS tpE 78 B w' p' c' (l++[y])->V1.grownBy w' (p.map Addr.block)->(∀ a,p'=some a->p=some a\/a.block=V1.heap.size)->K (.slice p' (l++[y]).length c') w') :
  SatR ((Builtin.append_ #[118,118] 118 #[.slice p l.length c,.slice (some a) 1 1]).run PG V1) K :=
 jx (E:=tpE) (T:=78) (B:=B) (l:=l) (news:=[y]) (cap:=c) (m:=1) Tryz.underlying118 k78 rfl rfl rfl ho rfl ha hB (by omega) (by show (l.length+1)*24<=_;omega) fun p' c' w' a1 a2 _ a4=>h p' c' w' a1 (by rw [zaf] at a2;exact a2) a4
theorem zsP {B c:Nat} {V1:Wd} {p:OA} {l:List zc0} {y:zc0} {a:Addr} (ho:OwnS jG 73 B V1 p c l) (ha:zw V1 a ([y].flatMap jG.enc)) (hB:B<=V1.heap.size) (hl:l.length<=100000) {K:Value->Wd->Prop}
  (h:∀ p' c' w',OwnS jG 73 B w' p' c' (l++[y])->V1.grownBy w' (p.map Addr.block)->(∀ a,p'=some a->p=some a\/a.block=V1.heap.size)->K (.slice p' (l++[y]).length c') w') :
  SatR ((Builtin.append_ #[78,78] 78 #[.slice p l.length c,.slice (some a) 1 1]).run PG V1) K :=
 jx (E:=jG) (T:=73) (B:=B) (l:=l) (news:=[y]) (cap:=c) (m:=1) Tryz.underlying78 k73 rfl rfl rfl ho rfl ha hB (by omega) (by show (l.length+1)*104<=_;omega) fun p' c' w' a1 a2 _ a4=>h p' c' w' a1 (by rw [zaf] at a2;exact a2) a4
structure ThrQ (V:List UInt8) (l:List InsD):Prop where
 l12:l.length<=12
 ex:∀ x∈l,zsS x
 ok:qc l 6=true
 m:(qs l (ded V)).length<=4096
end Go.Proofs.YtpalcnbhkigagaaGreatDoor
namespace Go.Proofs.YtpalcnbhkigagaaGreatDoor
open Go.Vc Go.RowKit Go.Sei
open Go.Sort (swp)
abbrev RB (w:Wd) (g:Nat) (sp:List Value) (d:Array UInt8):Prop:=RowS zF 5 w g sp d.toList
def lt8 (x y:UInt8):Bool:=decide ((x.toNat:Int)<(y.toNat:Int))
theorem znv:Go.Sort.SWO lt8 where
 irrefl:=fun x=>Uk (by omega)
 trans:=fun x y z h1 h2=>by
  have h1:=dT h1;have h2:=dT h2;exact Uv (by omega)
 ntrans:=fun x y z h1 h2=>by
  have h1:=dF h1;have h2:=dF h2;exact Uk (by omega)
section
variable {w:Wd} {g i j:Nat} {sp:List Value} {d:Array UInt8}
theorem zq (h:RB w g sp d) (hi:i<d.size):w.cell? ⟨g,0+i*1,none⟩=some (u8 d[i]!):=by
 have h1:i<d.toList.length:=by simpa using hi
 have:=zcY h h1;rw [this,getElem!_pos d i hi];simp
theorem zE {P:Program} {iT:TI} (hT:TIok P 5 iT) (hs:iT.size=1) (hr:RB w g sp d) (hi:i<d.size) (x:UInt8) {K:Wd->Prop}
  (k:∀ w',RB w' g sp (d.setIfInBounds i x)->w.grownBy w' (some g)->K w') :
  SatR ((storeVar 5 ⟨g,0+i*1,none⟩ (.agg (zF.enc x).toArray)).run P w) fun _ w'=>K w':=by
 refine zhj hT hs hr (i:=i) (by simpa using hi) x fun Z hRZ gZ sZ=>k Z ?_ gZ;show RowS zF 5 Z g sp (d.setIfInBounds i x).toList;rw [Array.toList_setIfInBounds];exact hRZ
theorem zt (w:Wd) (g:Nat):w.grownBy w.drew (some g):=⟨rfl,rfl,rfl,UZ _,fun _ _ _=>rfl⟩
end
section
variable {w:Wd} {g cap L a b:Nat} {sp:List Value} {d:Array UInt8}
theorem zrg (hr:RB w g sp d) (hL:d.size=L) (hab:a<=b) (hb:b<=L) (hl:L<=1000000) :
  Calls PG 137 #[.slice (some ⟨g,0,none⟩) L cap,i64 a,i64 b] w fun e w'=>e = .returned (.tuple #[])/\RB w' g sp (Go.Sort.insertionSort lt8 d a b)/\w.grownBy w' (some g):=by
 refine zK 49 [.slice (some ⟨g,0,none⟩) L cap,i64 a,i64 b] Tryz.func137 ?_;obtain⟨R,hR⟩:=nm (Go.Sort.insertionSort lt8 d a b);rw [<- hR];refine⟨((a+1:Nat):Int),(ze (by first | omega | (dsimp only;omega))).trans (by first | omega | (dsimp only;omega)),Nat×Array UInt8,fun s=>⟨[(0,.slice (some ⟨g,0,none⟩) L cap),(1,i64 a),(2,i64 b),(6,i64 (s.1:Nat))],[]⟩,fun s X=>a+1<=s.1/\s.2.size=L/\Go.Sort.insOuter lt8 a b s.1 s.2=R/\RB X g sp s.2/\w.grownBy X (some g),fun s=>b-s.1,(a+1,d),(cvE rfl rfl),⟨UZ _,hL,by rw [hR];rfl,hr,z5 _ _⟩,?_⟩;rintro⟨i,d1⟩ X ⟨hi,hs1,hR1,hrX,gX⟩;dsimp only at hi hs1 hR1 hrX;rw [Go.Sort.insOuter] at hR1;refine biE (fun hc=>?_) fun hc=>?_
 ·have hc:(i:Int)<(b:Int):=dT hc;have hib:i<b:=by omega
  rw [Gs hib] at hR1;refine⟨Nat×Array UInt8,fun s=>⟨[(0,.slice (some ⟨g,0,none⟩) L cap),(1,i64 a),(2,i64 b),(6,i64 (i:Nat)),(7,i64 (s.1:Nat))],[]⟩,fun s Y=>a<=s.1/\s.1<=i/\s.2.size=L/\Go.Sort.insInner lt8 a s.1 s.2=Go.Sort.insInner lt8 a i d1/\RB Y g sp s.2/\w.grownBy Y (some g),fun s=>s.1,(i,d1),(cvE rfl rfl),⟨by show a<=i;omega,UZ _,hs1,rfl,hrX,gX⟩,?_⟩;rintro⟨j,d2⟩ Y ⟨hj,hji,hs2,hR2,hrY,gY⟩;dsimp only at hj hji hs2 hR2 hrY;have hout:∀ Z d3,Go.Sort.insInner lt8 a i d1=d3->d3.size=L->RB Z g sp d3->w.grownBy Z (some g)->a+1<=i+1/\d3.size=L/\Go.Sort.insOuter lt8 a b (i+1) d3=R/\RB Z g sp d3/\w.grownBy Z (some g):=fun Z d3 e z q gz=>⟨by omega,z,by rw [<- e];exact hR1,q,gz⟩;have gYd:=zd gY (zt Y g);have qd:RB Y.drew g sp d2:=hrY;refine DrawE.ord [] [0,1,2,3,4,5,6,7,8,9,10,11,12,13,14] (by kernel_rfl) (biE (fun h2=>?_) fun h2=>?_)
  ·have h2:(a:Int)<(j:Int):=dT h2;obtain⟨k,rfl⟩:∃ k,j=k+1:=⟨j-1,by omega⟩;have hk1:k+1<d2.size:=by omega
   have hk:k<d2.size:=by omega
   have e2:Go.Sort.insInner lt8 a (k+1) d2=if (decide (k+1 > a)&&lt8 d2[k+1]! d2[k]!)=true then Go.Sort.insInner lt8 a k (swp d2 (k+1) k) else d2:=rfl
   have e3:decide (k+1 > a)=true:=Uv (by omega);rw [e2,e3,UB] at hR2;refine⟨k+1,rfl,by omega,?_⟩;refine⟨_,zq qd hk1,((k:Nat):Int),(ze (by first | omega | (dsimp only;omega))).trans (by first | omega | (dsimp only;omega)),k,rfl,by omega,?_⟩;refine⟨_,zq qd hk,cmo jA ?_⟩;rintro e _ ⟨rfl,rfl⟩;refine⟨Ge _ _,biE (fun h3=>?_) fun h3=>?_⟩
   ·have h3:lt8 d2[k+1]! d2[k]! = true:=h3;rw [Gs h3] at hR2;have qe:RB Y.drew.drew g sp d2:=qd;refine DrawE.ord [15,17] [0,1,2,3,4,5,6,7,8,9,10,11,12,13,14,15,16,17] (by kernel_rfl) ⟨((k:Nat):Int),(ze (by first | omega | (dsimp only;omega))).trans (by first | omega | (dsimp only;omega)),((k:Nat):Int),(ze (by first | omega | (dsimp only;omega))).trans (by first | omega | (dsimp only;omega)),k,rfl,by omega,?_⟩;refine⟨_,zq qe hk,k+1,rfl,by omega,?_⟩;refine⟨_,zq qe hk1,k+1,rfl,by omega,?_⟩;refine zE k5 rfl qe hk1 d2[k]! fun V1 q1 g1=>⟨k,rfl,by omega,?_⟩;refine zE k5 rfl q1 (by rw [Array.size_setIfInBounds];exact hk) d2[k+1]! fun V2 q2 g2=>?_;have q2:RB V2 g sp (swp d2 (k+1) (k)):=q2;have z2:(swp d2 (k+1) (k)).size=d2.size:=Go.Sort.size_swp d2 (k+1) (k);exact⟨((k:Nat):Int),(ze (by first | omega | (dsimp only;omega))).trans (by first | omega | (dsimp only;omega)),(k,swp d2 (k+1) k),(cvE rfl rfl),⟨by show a<=k;omega,by show k<=i;omega,by rw [z2];exact hs2,hR2,q2,zd gYd (zd (zt _ g) (zd g1 g2))⟩,QE k⟩
   ·have h3:lt8 d2[k+1]! d2[k]! = false:=h3;rw [Gr (by rw [h3];exact Ky)] at hR2;exact⟨((i+1:Nat):Int),(ze (by first | omega | (dsimp only;omega))).trans (by first | omega | (dsimp only;omega)),(i+1,d2),(cvE rfl rfl),hout _ _ hR2.symm hs2 qd gYd,zdc (by omega)⟩
  ·have h2:¬ (a:Int)<(j:Int):=dF h2;have hja:j=a:=by omega
   subst hja;have e2:Go.Sort.insInner lt8 j j d2=d2:=by
    cases j with
    | zero=>rfl
    | succ k =>
     show (if (decide (k+1 > k+1)&&lt8 d2[k+1]! d2[k]!)=true then _ else d2)=d2;rw [Uk (by omega),Um];rfl
   rw [e2] at hR2;exact Gj (fun h=>by cases h) (fun _=>⟨((i+1:Nat):Int),(ze (by first | omega | (dsimp only;omega))).trans (by first | omega | (dsimp only;omega)),(i+1,d2),(cvE rfl rfl),hout _ _ hR2.symm hs2 qd gYd,zdc (by omega)⟩)
 ·have hc:¬ (i:Int)<(b:Int):=dF hc;rw [Gr (by omega)] at hR1;exact⟨rfl,hR1▸hrX,gX⟩
end
def zbn (hi first root:Nat) (d:Array UInt8):Nat:=if (decide (2*root+1+1<hi)&&lt8 d[first+(2*root+1)]! d[first+(2*root+1)+1]!)=true then 2*root+2 else 2*root+1
theorem zfW {hi first root:Nat} {d:Array UInt8} (h:¬ 2*root+1<hi):Go.Sort.siftDown lt8 hi first root d=d:=by
 rw [Go.Sort.siftDown,dif_pos (by omega)]
theorem zll {hi first root:Nat} {d:Array UInt8} (h:2*root+1<hi):Go.Sort.siftDown lt8 hi first root d =
  if (!lt8 d[first+root]! d[first+zbn hi first root d]!)=true then d else Go.Sort.siftDown lt8 hi first (zbn hi first root d) (swp d (first+root) (first+zbn hi first root d)):=by
 rw [Go.Sort.siftDown,dif_neg (by omega)];unfold zbn;by_cases h2:(decide (2*root+1+1<hi)&&lt8 d[first+(2*root+1)]! d[first+(2*root+1)+1]!)=true
 ·have h3:2*root+2<hi:=by
   rw [bAT,dE] at h2;omega
  rw [Gs h2,Gs h2,dif_pos h3]
 ·rw [Gr h2,Gr h2]
theorem zhq {hi first root:Nat} {d:Array UInt8} (h:2*root+1<hi):zbn hi first root d<hi/\root<zbn hi first root d:=by
 unfold zbn
 split
 ·rename_i h2;rw [bAT,dE] at h2;omega
 ·omega
section
variable {w:Wd} {g cap L a b:Nat} {sp:List Value} {d:Array UInt8}
theorem znA {lo hi first:Nat} (hr:RB w g sp d) (hL:d.size=L) (hb:first+hi<=L) (hl:L<=1000000) (hlo:lo<=1000000) :
  Calls PG 155 #[.slice (some ⟨g,0,none⟩) L cap,i64 lo,i64 hi,i64 first] w fun e w'=>e = .returned (.tuple #[])/\RB w' g sp (Go.Sort.siftDown lt8 hi first lo d)/\w.grownBy w' (some g):=by
 refine zK 76 [.slice (some ⟨g,0,none⟩) L cap,i64 lo,i64 hi,i64 first] Tryz.func155 ?_;obtain⟨R,hR⟩:=nm (Go.Sort.siftDown lt8 hi first lo d);rw [<- hR];refine⟨Nat×Array UInt8,fun s=>⟨[(0,.slice (some ⟨g,0,none⟩) L cap),(1,i64 lo),(2,i64 hi),(3,i64 first),(8,i64 (s.1:Nat))],[]⟩,fun s X=>s.1<=1000000/\s.2.size=L/\Go.Sort.siftDown lt8 hi first s.1 s.2=R/\RB X g sp s.2/\w.grownBy X (some g),fun s=>hi-s.1,(lo,d),(cvE rfl rfl),⟨hlo,hL,hR.symm,hr,z5 _ _⟩,?_⟩;rintro⟨root,d1⟩ X ⟨hro,hs1,hR1,hrX,gX⟩;dsimp only at hro hs1 hR1 hrX;refine⟨((2*root:Nat):Int),(ze (by first | omega | (dsimp only;omega))).trans (by first | omega | (dsimp only;omega)),((2*root+1:Nat):Int),(ze (by first | omega | (dsimp only;omega))).trans (by first | omega | (dsimp only;omega)),biE (fun hc=>?_) fun hc=>?_⟩
 ·have hc:(hi:Int)<=((2*root+1:Nat):Int):=dT hc;rw [zfW (by omega)] at hR1;exact⟨rfl,hR1▸hrX,gX⟩
 ·have hc:¬ (hi:Int)<=((2*root+1:Nat):Int):=dF hc;have hch:2*root+1<hi:=by omega
  rw [zll hch] at hR1;obtain⟨hclt,hcr⟩:=zhq (d:=d1) (first:=first) hch;obtain⟨c,hcd⟩:=nm (zbn hi first root d1);rw [<- hcd] at hR1 hclt hcr;have qd:RB X.drew g sp d1:=hrX;have gXd:=zd gX (zt X g);refine DrawE.ord [] [0,1,2,3,4,5,6,7,8,9,10,11,12,13,14,15,16,17,18,19] (by kernel_rfl) ⟨((2*root+1+1:Nat):Int),(ze (by first | omega | (dsimp only;omega))).trans (by first | omega | (dsimp only;omega)),biE (fun h2=>?_) fun h2=>?_⟩
  ·have h2:((2*root+1+1:Nat):Int)<(hi:Int):=dT h2;have h2:2*root+1+1<hi:=by omega
   have hx1:first+(2*root+1)<d1.size:=by omega
   have hx2:first+(2*root+1)+1<d1.size:=by omega
   refine⟨((first+(2*root+1):Nat):Int),(ze (by first | omega | (dsimp only;omega))).trans (by first | omega | (dsimp only;omega)),first+(2*root+1),rfl,by omega,?_⟩;refine⟨_,zq qd hx1,((first+(2*root+1):Nat):Int),(ze (by first | omega | (dsimp only;omega))).trans (by first | omega | (dsimp only;omega)),((first+(2*root+1)+1:Nat):Int),(ze (by first | omega | (dsimp only;omega))).trans (by first | omega | (dsimp only;omega)),first+(2*root+1)+1,rfl,by omega,?_⟩;refine⟨_,zq qd hx2,cmo jA ?_⟩;rintro e _ ⟨rfl,rfl⟩;refine⟨Ge _ _,biE (fun h3=>?_) fun h3=>?_⟩
   ·have h3:lt8 d1[first+(2*root+1)]! d1[first+(2*root+1)+1]! = true:=h3;have hce:c=2*root+2:=(by rw [hcd];unfold zbn;rw [h3,Uv h2];rfl);subst hce;clear hcd;refine⟨((2*root+2:Nat):Int),(ze (by first | omega | (dsimp only;omega))).trans (by first | omega | (dsimp only;omega)),?_⟩;have hi1:first+root<d1.size:=by omega
    have hi2:first+(2*root+2)<d1.size:=by omega
    have q5:RB X.drew.drew g sp d1:=hrX;refine DrawE.ord [] [0,1,2,3,4,5,6,7,8,9,10,11,12,13] (by kernel_rfl) ⟨((first+root:Nat):Int),(ze (by first | omega | (dsimp only;omega))).trans (by first | omega | (dsimp only;omega)),first+root,rfl,by omega,?_⟩;refine⟨_,zq q5 hi1,((first+(2*root+2):Nat):Int),(ze (by first | omega | (dsimp only;omega))).trans (by first | omega | (dsimp only;omega)),first+(2*root+2),rfl,by omega,?_⟩;refine⟨_,zq q5 hi2,cmo jA ?_⟩;rintro e _ ⟨rfl,rfl⟩;refine⟨Ge _ _,biE (fun h4=>?_) fun h4=>?_⟩
    ·have h4:(!lt8 d1[first+root]! d1[first+(2*root+2)]!)=true:=h4;rw [Gs h4] at hR1;exact⟨rfl,hR1▸hrX,zd gXd (zt _ g)⟩
    ·have h4:(!lt8 d1[first+root]! d1[first+(2*root+2)]!)=false:=h4;rw [Gr (by rw [h4];exact Ky)] at hR1;have q6:RB X.drew.drew.drew g sp d1:=hrX;refine DrawE.ord [21,23] [0,1,2,3,4,5,6,7,8,9,10,11,12,13,14,15,16,17,18,19,20,21,22,23] (by kernel_rfl) ⟨((first+root:Nat):Int),(ze (by first | omega | (dsimp only;omega))).trans (by first | omega | (dsimp only;omega)),((first+(2*root+2):Nat):Int),(ze (by first | omega | (dsimp only;omega))).trans (by first | omega | (dsimp only;omega)),((first+(2*root+2):Nat):Int),(ze (by first | omega | (dsimp only;omega))).trans (by first | omega | (dsimp only;omega)),first+(2*root+2),rfl,by omega,?_⟩;refine⟨_,zq q6 hi2,((first+root:Nat):Int),(ze (by first | omega | (dsimp only;omega))).trans (by first | omega | (dsimp only;omega)),first+root,rfl,by omega,?_⟩;refine⟨_,zq q6 hi1,first+root,rfl,by omega,?_⟩;refine zE k5 rfl q6 hi1 d1[first+(2*root+2)]! fun V1 q1 g1=>⟨first+(2*root+2),rfl,by omega,?_⟩;refine zE k5 rfl q1 (by rw [Array.size_setIfInBounds];exact hi2) d1[first+root]! fun V2 q2 g2=>?_;have q2:RB V2 g sp (swp d1 (first+root) (first+(2*root+2))):=q2;have z2:(swp d1 (first+root) (first+(2*root+2))).size=d1.size:=Go.Sort.size_swp d1 (first+root) (first+(2*root+2));exact⟨(2*root+2,swp d1 (first+root) (first+(2*root+2))),(cvE rfl rfl),⟨by show 2*root+2<=1000000;omega,by rw [z2];exact hs1,hR1,q2,zd gXd (zd (zt _ g) (zd (zt _ g) (zd g1 g2)))⟩,by show hi-(2*root+2)<hi-root;omega⟩
   ·have h3:lt8 d1[first+(2*root+1)]! d1[first+(2*root+1)+1]! = false:=h3;have hce:c=2*root+1:=(by rw [hcd];unfold zbn;rw [h3,Ul];rfl);subst hce;clear hcd;have hi1:first+root<d1.size:=by omega
    have hi2:first+(2*root+1)<d1.size:=by omega
    have q5:RB X.drew.drew g sp d1:=hrX;refine DrawE.ord [] [0,1,2,3,4,5,6,7,8,9,10,11,12,13] (by kernel_rfl) ⟨((first+root:Nat):Int),(ze (by first | omega | (dsimp only;omega))).trans (by first | omega | (dsimp only;omega)),first+root,rfl,by omega,?_⟩;refine⟨_,zq q5 hi1,((first+(2*root+1):Nat):Int),(ze (by first | omega | (dsimp only;omega))).trans (by first | omega | (dsimp only;omega)),first+(2*root+1),rfl,by omega,?_⟩;refine⟨_,zq q5 hi2,cmo jA ?_⟩;rintro e _ ⟨rfl,rfl⟩;refine⟨Ge _ _,biE (fun h4=>?_) fun h4=>?_⟩
    ·have h4:(!lt8 d1[first+root]! d1[first+(2*root+1)]!)=true:=h4;rw [Gs h4] at hR1;exact⟨rfl,hR1▸hrX,zd gXd (zt _ g)⟩
    ·have h4:(!lt8 d1[first+root]! d1[first+(2*root+1)]!)=false:=h4;rw [Gr (by rw [h4];exact Ky)] at hR1;have q6:RB X.drew.drew.drew g sp d1:=hrX;refine DrawE.ord [21,23] [0,1,2,3,4,5,6,7,8,9,10,11,12,13,14,15,16,17,18,19,20,21,22,23] (by kernel_rfl) ⟨((first+root:Nat):Int),(ze (by first | omega | (dsimp only;omega))).trans (by first | omega | (dsimp only;omega)),((first+(2*root+1):Nat):Int),(ze (by first | omega | (dsimp only;omega))).trans (by first | omega | (dsimp only;omega)),((first+(2*root+1):Nat):Int),(ze (by first | omega | (dsimp only;omega))).trans (by first | omega | (dsimp only;omega)),first+(2*root+1),rfl,by omega,?_⟩;refine⟨_,zq q6 hi2,((first+root:Nat):Int),(ze (by first | omega | (dsimp only;omega))).trans (by first | omega | (dsimp only;omega)),first+root,rfl,by omega,?_⟩;refine⟨_,zq q6 hi1,first+root,rfl,by omega,?_⟩;refine zE k5 rfl q6 hi1 d1[first+(2*root+1)]! fun V1 q1 g1=>⟨first+(2*root+1),rfl,by omega,?_⟩;refine zE k5 rfl q1 (by rw [Array.size_setIfInBounds];exact hi2) d1[first+root]! fun V2 q2 g2=>?_;have q2:RB V2 g sp (swp d1 (first+root) (first+(2*root+1))):=q2;have z2:(swp d1 (first+root) (first+(2*root+1))).size=d1.size:=Go.Sort.size_swp d1 (first+root) (first+(2*root+1));exact⟨(2*root+1,swp d1 (first+root) (first+(2*root+1))),(cvE rfl rfl),⟨by show 2*root+1<=1000000;omega,by rw [z2];exact hs1,hR1,q2,zd gXd (zd (zt _ g) (zd (zt _ g) (zd g1 g2)))⟩,by show hi-(2*root+1)<hi-root;omega⟩
  ·have h2:¬ ((2*root+1+1:Nat):Int)<(hi:Int):=dF h2;refine Gj (fun h=>by cases h) (fun _=>?_);have hce:c=2*root+1:=by rw [hcd];unfold zbn;rw [Uk (by omega),Um];rfl
   subst hce;clear hcd;have hi1:first+root<d1.size:=by omega
   have hi2:first+(2*root+1)<d1.size:=by omega
   have q5:RB X.drew.drew g sp d1:=hrX;refine DrawE.ord [] [0,1,2,3,4,5,6,7,8,9,10,11,12,13] (by kernel_rfl) ⟨((first+root:Nat):Int),(ze (by first | omega | (dsimp only;omega))).trans (by first | omega | (dsimp only;omega)),first+root,rfl,by omega,?_⟩;refine⟨_,zq q5 hi1,((first+(2*root+1):Nat):Int),(ze (by first | omega | (dsimp only;omega))).trans (by first | omega | (dsimp only;omega)),first+(2*root+1),rfl,by omega,?_⟩;refine⟨_,zq q5 hi2,cmo jA ?_⟩;rintro e _ ⟨rfl,rfl⟩;refine⟨Ge _ _,biE (fun h4=>?_) fun h4=>?_⟩
   ·have h4:(!lt8 d1[first+root]! d1[first+(2*root+1)]!)=true:=h4;rw [Gs h4] at hR1;exact⟨rfl,hR1▸hrX,zd gXd (zt _ g)⟩
   ·have h4:(!lt8 d1[first+root]! d1[first+(2*root+1)]!)=false:=h4;rw [Gr (by rw [h4];exact Ky)] at hR1;have q6:RB X.drew.drew.drew g sp d1:=hrX;refine DrawE.ord [21,23] [0,1,2,3,4,5,6,7,8,9,10,11,12,13,14,15,16,17,18,19,20,21,22,23] (by kernel_rfl) ⟨((first+root:Nat):Int),(ze (by first | omega | (dsimp only;omega))).trans (by first | omega | (dsimp only;omega)),((first+(2*root+1):Nat):Int),(ze (by first | omega | (dsimp only;omega))).trans (by first | omega | (dsimp only;omega)),((first+(2*root+1):Nat):Int),(ze (by first | omega | (dsimp only;omega))).trans (by first | omega | (dsimp only;omega)),first+(2*root+1),rfl,by omega,?_⟩;refine⟨_,zq q6 hi2,((first+root:Nat):Int),(ze (by first | omega | (dsimp only;omega))).trans (by first | omega | (dsimp only;omega)),first+root,rfl,by omega,?_⟩;refine⟨_,zq q6 hi1,first+root,rfl,by omega,?_⟩;refine zE k5 rfl q6 hi1 d1[first+(2*root+1)]! fun V1 q1 g1=>⟨first+(2*root+1),rfl,by omega,?_⟩;refine zE k5 rfl q1 (by rw [Array.size_setIfInBounds];exact hi2) d1[first+root]! fun V2 q2 g2=>?_;have q2:RB V2 g sp (swp d1 (first+root) (first+(2*root+1))):=q2;have z2:(swp d1 (first+root) (first+(2*root+1))).size=d1.size:=Go.Sort.size_swp d1 (first+root) (first+(2*root+1));exact⟨(2*root+1,swp d1 (first+root) (first+(2*root+1))),(cvE rfl rfl),⟨by show 2*root+1<=1000000;omega,by rw [z2];exact hs1,hR1,q2,zd gXd (zd (zt _ g) (zd (zt _ g) (zd g1 g2)))⟩,by show hi-(2*root+1)<hi-root;omega⟩
theorem zeI (hi first:Nat):∀ (n root:Nat) (d:Array UInt8),hi-root<=n->(Go.Sort.siftDown lt8 hi first root d).size=d.size
 | 0,root,d,h=>by rw [zfW (by omega)]
 | n+1,root,d,h=>by
  by_cases hc:2*root+1<hi
  ·have:=zhq (d:=d) (first:=first) hc;rw [zll hc]
   split
   ·rfl
   ·rw [zeI hi first n _ _ (by omega)];exact Go.Sort.size_swp ..
  ·rw [zfW hc]
theorem zpJ (hr:RB w g sp d) (hL:d.size=L) (hab:a<b) (hb:b<=L) (hl:L<=1000000) :
  Calls PG 138 #[.slice (some ⟨g,0,none⟩) L cap,i64 a,i64 b] w fun e w'=>e = .returned (.tuple #[])/\RB w' g sp (Go.Sort.heapSort lt8 d a b)/\w.grownBy w' (some g):=by
 refine zK 56 [.slice (some ⟨g,0,none⟩) L cap,i64 a,i64 b] Tryz.func138 ?_;obtain⟨R,hR⟩:=nm (Go.Sort.heapSort lt8 d a b);rw [<- hR];refine⟨((b-a:Nat):Int),(ze (by first | omega | (dsimp only;omega))).trans (by first | omega | (dsimp only;omega)),((b-a-1:Nat):Int),(ze (by first | omega | (dsimp only;omega))).trans (by first | omega | (dsimp only;omega)),by decide,(((b-a-1)/2:Nat):Int),(Gm _ (show ((b-a-1:Nat):Int).tdiv 2=(((b-a-1)/2:Nat):Int) from rfl)).trans (ze (by omega)),Nat×Array UInt8,fun s=>⟨[(0,.slice (some ⟨g,0,none⟩) L cap),(1,i64 a),(2,i64 b),(6,i64 a),(7,i64 0),(8,i64 (b-a:Nat)),(9,i64 ((s.1:Int)-1))],[]⟩,fun s X=>s.1<=(b-a-1)/2+1/\s.2.size=L/\Go.Sort.heapPop lt8 a (b-a) (Go.Sort.heapBuild lt8 (b-a) a s.1 s.2)=R/\RB X g sp s.2/\w.grownBy X (some g),fun s=>s.1,((b-a-1)/2+1,d),⟨.cons rfl (.cons rfl (.cons rfl (.cons rfl (.cons rfl (.cons rfl (.cons (by dsimp only;rw [show ((((b-a-1)/2+1:Nat):Int)-1)=(((b-a-1)/2:Nat):Int) by omega];rfl) .nil)))))),rfl⟩,⟨UZ _,hL,hR.symm,hr,z5 _ _⟩,?_⟩;rintro⟨k,d1⟩ X ⟨hk,hs1,hR1,hrX,gX⟩;dsimp only at hk hs1 hR1 hrX;refine biE (fun hc=>?_) fun hc=>?_
 ·have hc:(0:Int)<=(k:Int)-1:=dT hc;obtain⟨m,rfl⟩:∃ m,k=m+1:=⟨k-1,by omega⟩;have hm:(((m+1:Nat):Int)-1)=(m:Int):=by omega
  have c1:=znA (cap:=cap) (lo:=m) (hi:=b-a) (first:=a) hrX hs1 (by omega) hl (by omega);rw [<- hm] at c1;refine cmo c1 ?_;rintro e Y ⟨rfl,qY,gY⟩;exact⟨(m:Int)-1,(ze (by omega)).trans (by omega),(m,Go.Sort.siftDown lt8 (b-a) a m d1),(cvE rfl rfl),⟨by show m<=_;omega,by show (Go.Sort.siftDown ..).size=L;rw [zeI _ _ _ _ _ (UZ _)];exact hs1,hR1,qY,zd gX gY⟩,QE m⟩
 ·have hc:¬ (0:Int)<=(k:Int)-1:=dF hc;obtain rfl:k=0:=by omega
  have hR1:Go.Sort.heapPop lt8 a (b-a) d1=R:=hR1;refine⟨((b-a-1:Nat):Int),(ze (by first | omega | (dsimp only;omega))).trans (by first | omega | (dsimp only;omega)),Nat×Array UInt8,fun s=>⟨[(0,.slice (some ⟨g,0,none⟩) L cap),(1,i64 a),(2,i64 b),(6,i64 a),(7,i64 0),(8,i64 (b-a:Nat)),(10,i64 ((s.1:Int)-1))],[]⟩,fun s Y=>s.1<=b-a/\s.2.size=L/\Go.Sort.heapPop lt8 a s.1 s.2=R/\RB Y g sp s.2/\w.grownBy Y (some g),fun s=>s.1,(b-a,d1),⟨.cons rfl (.cons rfl (.cons rfl (.cons rfl (.cons rfl (.cons rfl (.cons (by dsimp only;rw [show (((b-a:Nat):Int)-1)=((b-a-1:Nat):Int) by omega];rfl) .nil)))))),rfl⟩,⟨UZ _,hs1,hR1,hrX,gX⟩,?_⟩;rintro⟨k,d2⟩ Y ⟨hk,hs2,hR2,hrY,gY⟩;dsimp only at hk hs2 hR2 hrY;refine biE (fun hc=>?_) fun hc=>?_
  ·have hc:(0:Int)<=(k:Int)-1:=dT hc;obtain⟨m,rfl⟩:∃ m,k=m+1:=⟨k-1,by omega⟩;have hm:(((m+1:Nat):Int)-1)=(m:Int):=by omega
   have hi1:a<d2.size:=by omega
   have hi2:a+m<d2.size:=by omega
   have qd:RB Y.drew g sp d2:=hrY;refine DrawE.ord [17,19] [0,1,2,3,4,5,6,7,8,9,10,11,12,13,14,15,16,17,18,19] (by kernel_rfl) ⟨((a+m:Nat):Int),(ze (by first | omega | (dsimp only;omega))).trans (by first | omega | (dsimp only;omega)),((a+m:Nat):Int),(ze (by first | omega | (dsimp only;omega))).trans (by first | omega | (dsimp only;omega)),a+m,rfl,by omega,?_⟩;refine⟨_,zq qd hi2,a,rfl,by omega,?_⟩;refine⟨_,zq qd hi1,a,rfl,by omega,?_⟩;refine zE k5 rfl qd hi1 d2[a+m]! fun V1 q1 g1=>⟨a+m,rfl,by omega,?_⟩;refine zE k5 rfl q1 (by rw [Array.size_setIfInBounds];exact hi2) d2[a]! fun V2 q2 g2=>?_;have q2:RB V2 g sp (swp d2 (a) (a+m)):=q2;have z2:(swp d2 (a) (a+m)).size=d2.size:=Go.Sort.size_swp d2 (a) (a+m);have c1:=znA (cap:=cap) (lo:=0) (hi:=m) (first:=a) q2 (by rw [z2];exact hs2) (by omega) hl (by omega);rw [<- hm] at c1;refine cmo c1 ?_;rintro e Z ⟨rfl,qZ,gZ⟩;exact⟨(m:Int)-1,(ze (by omega)).trans (by omega),(m,Go.Sort.siftDown lt8 m a 0 (swp d2 a (a+m))),(cvE rfl rfl),⟨by show m<=_;omega,by show (Go.Sort.siftDown ..).size=L;rw [zeI _ _ _ _ _ (UZ _),z2];exact hs2,hR2,qZ,zd gY (zd (zt _ g) (zd g1 (zd g2 gZ)))⟩,QE m⟩
  ·have hc:¬ (0:Int)<=(k:Int)-1:=dF hc;obtain rfl:k=0:=by omega
   have hR2:d2=R:=hR2;exact⟨rfl,hR2▸hrY,gY⟩
end
theorem zdy {p:UInt8->Bool} {d:Array UInt8} {i j:Nat} (h:i<=j) (hp:p d[i]! = true):Go.Sort.scanUp p d j i=Go.Sort.scanUp p d j (i+1):=by
 rw [Go.Sort.scanUp,Gs (by rw [Uv h,hp];rfl)]
theorem zbh {p:UInt8->Bool} {d:Array UInt8} {i j:Nat} (h:i<=j->p d[i]! = false):Go.Sort.scanUp p d j i=i:=by
 rw [Go.Sort.scanUp];by_cases e:i<=j
 ·rw [Gr (by rw [h e,Ul];exact Ky)]
 ·rw [Gr (by rw [Uk e];exact Ky)]
theorem zcm {p:UInt8->Bool} {d:Array UInt8} {i j:Nat} (h:i<=j+1) (hp:p d[j+1]! = true):Go.Sort.scanDown p d i (j+1)=Go.Sort.scanDown p d i j:=by
 show (if (decide (i<=j+1)&&p d[j+1]!)=true then _ else _)=_;rw [Uv h,hp];rfl
theorem zam {p:UInt8->Bool} {d:Array UInt8} {i:Nat}:∀ {j:Nat},(i<=j->p d[j]! = false)->Go.Sort.scanDown p d i j=j
 | 0,_=>rfl
 | j+1,h=>by
  show (if (decide (i<=j+1)&&p d[j+1]!)=true then _ else _)=_;by_cases e:i<=j+1
  ·rw [h e,Ul];rfl
  ·rw [Uk e];rfl
section
variable {w:Wd} {g cap L a b pivot:Nat} {sp:List Value} {d:Array UInt8}
theorem zq6 (hr:RB w g sp d) (hL:d.size=L) (hap:a<=pivot) (hpb:pivot<b) (hb:b<=L) (hl:L<=1000000) :
  Calls PG 145 #[.slice (some ⟨g,0,none⟩) L cap,i64 a,i64 b,i64 pivot] w fun e w'=>∃ m ap d',Go.Sort.partition lt8 d a b pivot=(m,ap,d')/\e = .returned (.tuple #[i64 (m:Nat),.bool ap])/\RB w' g sp d'/\w.grownBy w' (some g):=by
 refine jf 168 [.slice (some ⟨g,0,none⟩) L cap,i64 a,i64 b,i64 pivot] (.s .p (.s .p (.s .p (.c .p (.c .p (.s .p (.s .p (.s .p (.s .p (.c (.b (.l (.b (.c .p (.c .p .p))))) .p)))))))))) Tryz.func145 ?_;have ha1:a<d.size:=by omega
 have ha2:pivot<d.size:=by omega
 have q0:RB w.drew g sp d:=hr;refine DrawE.ord [13,15] [0,1,2,3,4,5,6,7,8,9,10,11,12,13,14,15] (by kernel_rfl) ⟨pivot,rfl,by omega,?_⟩;refine⟨_,zq q0 ha2,a,rfl,by omega,?_⟩;refine⟨_,zq q0 ha1,a,rfl,by omega,?_⟩;refine zE k5 rfl q0 ha1 d[pivot]! fun V1s q1s g1s=>⟨pivot,rfl,by omega,?_⟩;refine zE k5 rfl q1s (by rw [Array.size_setIfInBounds];exact ha2) d[a]! fun V2s q2s g2s=>?_;have q2s:RB V2s g sp (swp d (a) (pivot)):=q2s;have z2s:(swp d (a) (pivot)).size=d.size:=Go.Sort.size_swp d (a) (pivot);obtain⟨d1,hd1⟩:=nm (swp d a pivot);rw [<- hd1] at q2s z2s;have g0:=zd (zt w g) (zd g1s g2s);have hz1:d1.size=L:=by rw [z2s];exact hL
 refine⟨((a+1:Nat):Int),(ze (by first | omega | (dsimp only;omega))).trans (by first | omega | (dsimp only;omega)),?_⟩;obtain⟨J0,hJ0⟩:=nm (b-1);refine⟨((J0:Nat):Int),(ze (by first | omega | (dsimp only;omega))).trans (by first | omega | (dsimp only;omega)),?_⟩;obtain⟨I0,hI0⟩:=nm (Go.Sort.scanUp (fun x=>lt8 x d1[a]!) d1 J0 (a+1));obtain⟨K0,hK0⟩:=nm (Go.Sort.scanDown (fun x => !lt8 x d1[a]!) d1 I0 J0);have hPE:Go.Sort.partition lt8 d a b pivot=if I0 > K0 then (K0,true,swp d1 K0 a) else ((Go.Sort.partLoop lt8 a (I0+1) (K0-1) (swp d1 I0 K0)).1,false,swp (Go.Sort.partLoop lt8 a (I0+1) (K0-1) (swp d1 I0 K0)).2 (Go.Sort.partLoop lt8 a (I0+1) (K0-1) (swp d1 I0 K0)).1 a):=by rw [hK0,hI0,hJ0,hd1];rfl
 refine⟨Unit,fun _=>⟨[(0,.slice (some ⟨g,0,none⟩) L cap),(1,i64 a),(2,i64 b),(3,i64 pivot),(10,i64 (I0:Nat)),(11,i64 (J0:Nat))],[]⟩,fun _ X=>(a+1<=I0/\I0<=J0+1/\(I0<=J0->lt8 d1[I0]! d1[a]! = false))/\RB X g sp d1/\w.grownBy X (some g),?_,?_⟩
 ·refine⟨Nat,fun u=>⟨[(0,.slice (some ⟨g,0,none⟩) L cap),(1,i64 a),(2,i64 b),(3,i64 pivot),(10,i64 (u:Nat)),(11,i64 (J0:Nat))],[]⟩,fun u X=>a+1<=u/\u<=J0+1/\Go.Sort.scanUp (fun x=>lt8 x d1[a]!) d1 J0 u=I0/\RB X g sp d1/\w.grownBy X (some g),fun u=>J0+1-u,(a+1),(cvE rfl rfl),⟨by omega,by omega,hI0.symm,q2s,g0⟩,?_⟩;rintro u Y ⟨hi,hij,hRs,hrY,gY⟩;have gYd:=zd gY (zt Y g);have qd:RB Y.drew g sp d1:=hrY;refine DrawE.ord [] [0,1,2,3,4,5,6,7,8,9,10,11,12,13] (by kernel_rfl) (biE (fun h2=>?_) fun h2=>?_)
  ·have h2:(u:Int)<=(J0:Int):=dT h2;have h2:u<=J0:=by omega
   have hx1:u<d1.size:=by omega
   have hx2:a<d1.size:=by omega
   refine⟨u,rfl,by omega,?_⟩;refine⟨_,zq qd hx1,a,rfl,by omega,?_⟩;refine⟨_,zq qd hx2,cmo jA ?_⟩;rintro e _ ⟨rfl,rfl⟩;refine⟨Ge _ _,biE (fun h3=>?_) fun h3=>?_⟩
   ·have h3:lt8 d1[u]! d1[a]! = true:=h3;rw [zdy (p:=fun x=>lt8 x d1[a]!) h2 h3] at hRs;exact⟨((u+1:Nat):Int),(ze (by first | omega | (dsimp only;omega))).trans (by first | omega | (dsimp only;omega)),u+1,(cvE rfl rfl),⟨by omega,by omega,hRs,qd,gYd⟩,zdc (by omega)⟩
   ·have h3:lt8 d1[u]! d1[a]! = false:=h3;rw [zbh (p:=fun x=>lt8 x d1[a]!) fun _=>h3] at hRs;subst hRs;exact⟨(),(cvE rfl rfl),⟨hi,hij,fun _=>h3⟩,qd,gYd⟩
  ·have h2:¬ (u:Int)<=(J0:Int):=dF h2;refine Gj (fun h=>by cases h) (fun _=>?_);rw [zbh (p:=fun x=>lt8 x d1[a]!) fun h=>Gt h (by omega)] at hRs;subst hRs;exact⟨(),(cvE rfl rfl),⟨hi,hij,fun h=>Gt h (by omega)⟩,qd,gYd⟩
 rintro _ X ⟨⟨hI1,hI2,hI3⟩,hrX,gX⟩;refine⟨Unit,fun _=>⟨[(0,.slice (some ⟨g,0,none⟩) L cap),(1,i64 a),(2,i64 b),(3,i64 pivot),(10,i64 (I0:Nat)),(11,i64 (K0:Nat))],[]⟩,fun _ X=>(K0<=J0/\I0<=K0+1/\(I0<=K0->(!lt8 d1[K0]! d1[a]!)=false))/\RB X g sp d1/\w.grownBy X (some g),?_,?_⟩
 ·refine⟨Nat,fun k=>⟨[(0,.slice (some ⟨g,0,none⟩) L cap),(1,i64 a),(2,i64 b),(3,i64 pivot),(10,i64 (I0:Nat)),(11,i64 (k:Nat))],[]⟩,fun k X=>k<=J0/\I0<=k+1/\Go.Sort.scanDown (fun x => !lt8 x d1[a]!) d1 I0 k=K0/\RB X g sp d1/\w.grownBy X (some g),fun k=>k,J0,(cvE rfl rfl),⟨UZ _,by omega,hK0.symm,hrX,gX⟩,?_⟩;rintro k Y ⟨hi,hij,hRs,hrY,gY⟩;have gYd:=zd gY (zt Y g);have qd:RB Y.drew g sp d1:=hrY;refine DrawE.ord [] [0,1,2,3,4,5,6,7,8,9,10,11,12,13,14] (by kernel_rfl) (biE (fun h2=>?_) fun h2=>?_)
  ·have h2:(I0:Int)<=(k:Int):=dT h2;have h2:I0<=k:=by omega
   have hx1:k<d1.size:=by omega
   have hx2:a<d1.size:=by omega
   refine⟨k,rfl,by omega,?_⟩;refine⟨_,zq qd hx1,a,rfl,by omega,?_⟩;refine⟨_,zq qd hx2,cmo jA ?_⟩;rintro e _ ⟨rfl,rfl⟩;refine⟨Ge _ _,biE (fun h3=>?_) fun h3=>?_⟩
   ·have h3:(!lt8 d1[k]! d1[a]!)=true:=h3;obtain⟨m,rfl⟩:∃ m,k=m+1:=⟨k-1,by omega⟩;rw [zcm (p:=fun x => !lt8 x d1[a]!) h2 h3] at hRs;exact⟨((m:Nat):Int),(ze (by first | omega | (dsimp only;omega))).trans (by first | omega | (dsimp only;omega)),m,(cvE rfl rfl),⟨by omega,by omega,hRs,qd,gYd⟩,QE m⟩
   ·have h3:(!lt8 d1[k]! d1[a]!)=false:=h3;rw [zam (p:=fun x => !lt8 x d1[a]!) fun _=>h3] at hRs;subst hRs;exact⟨(),(cvE rfl rfl),⟨hi,hij,fun _=>h3⟩,qd,gYd⟩
  ·have h2:¬ (I0:Int)<=(k:Int):=dF h2;refine Gj (fun h=>by cases h) (fun _=>?_);rw [zam (p:=fun x => !lt8 x d1[a]!) fun h=>Gt h (by omega)] at hRs;subst hRs;exact⟨(),(cvE rfl rfl),⟨hi,hij,fun h=>Gt h (by omega)⟩,qd,gYd⟩
 rintro _ Y ⟨⟨hK1,hK2,hK3⟩,hrY,gY⟩;refine biE (fun hc=>?_) fun hc=>?_
 ·have hc:(K0:Int)<(I0:Int):=dT hc;rw [Gs (by omega)] at hPE;have hx1:K0<d1.size:=by omega
  have hx2:a<d1.size:=by omega
  have qd:RB Y.drew g sp d1:=hrY;refine DrawE.ord [13,15] [0,1,2,3,4,5,6,7,8,9,10,11,12,13,14,15] (by kernel_rfl) ⟨a,rfl,by omega,?_⟩;refine⟨_,zq qd hx2,K0,rfl,by omega,?_⟩;refine⟨_,zq qd hx1,K0,rfl,by omega,?_⟩;refine zE k5 rfl qd hx1 d1[a]! fun V1 q1 g1=>⟨a,rfl,by omega,?_⟩;refine zE k5 rfl q1 (by rw [Array.size_setIfInBounds];exact hx2) d1[K0]! fun V2 q2 g2=>?_;have q2:RB V2 g sp (swp d1 (K0) (a)):=q2;have z2:(swp d1 (K0) (a)).size=d1.size:=Go.Sort.size_swp d1 (K0) (a);exact⟨K0,true,_,hPE,rfl,q2,zd gY (zd (zt _ g) (zd g1 g2))⟩
 ·have hc:¬ (K0:Int)<(I0:Int):=dF hc;rw [Gr (by omega)] at hPE;have hne0:I0≠K0:=fun h=>by
   have e1:=hI3 (by omega);have e2:=hK3 (by omega);rw [h] at e1;rw [e1] at e2
   cases e2
  have hx1:I0<d1.size:=by omega
  have hx2:K0<d1.size:=by omega
  have qd:RB Y.drew g sp d1:=hrY;refine DrawE.ord [13,15] [0,1,2,3,4,5,6,7,8,9,10,11,12,13,14,15] (by kernel_rfl) ⟨K0,rfl,by omega,?_⟩;refine⟨_,zq qd hx2,I0,rfl,by omega,?_⟩;refine⟨_,zq qd hx1,I0,rfl,by omega,?_⟩;refine zE k5 rfl qd hx1 d1[K0]! fun V1t q1t g1t=>⟨K0,rfl,by omega,?_⟩;refine zE k5 rfl q1t (by rw [Array.size_setIfInBounds];exact hx2) d1[I0]! fun V2t q2t g2t=>?_;have q2t:RB V2t g sp (swp d1 (I0) (K0)):=q2t;have z2t:(swp d1 (I0) (K0)).size=d1.size:=Go.Sort.size_swp d1 (I0) (K0);refine⟨((I0+1:Nat):Int),(ze (by first | omega | (dsimp only;omega))).trans (by first | omega | (dsimp only;omega)),((K0-1:Nat):Int),(ze (by first | omega | (dsimp only;omega))).trans (by first | omega | (dsimp only;omega)),?_⟩;obtain⟨d2,hd2⟩:=nm (swp d1 I0 K0);rw [<- hd2] at hPE q2t z2t;have gt0:=zd gY (zd (zt _ g) (zd g1t g2t));have hz2:d2.size=L:=by rw [z2t];exact hz1
  obtain⟨R2,hR2⟩:=nm (Go.Sort.partLoop lt8 a (I0+1) (K0-1) d2);refine⟨Unit,fun _=>⟨[(0,.slice (some ⟨g,0,none⟩) L cap),(1,i64 a),(2,i64 b),(3,i64 pivot),(11,i64 (R2.1:Nat))],[]⟩,fun _ X=>(a<=R2.1/\R2.1<b)/\R2.2.size=L/\RB X g sp R2.2/\w.grownBy X (some g),?_,?_⟩
  ·refine⟨Nat×Nat×Array UInt8,fun s=>⟨[(0,.slice (some ⟨g,0,none⟩) L cap),(1,i64 a),(2,i64 b),(3,i64 pivot),(10,i64 (s.1:Nat)),(11,i64 (s.2.1:Nat))],[]⟩,fun s X=>(a+1<=s.1/\s.1<=s.2.1+1/\s.2.1<b)/\s.2.2.size=L/\Go.Sort.partLoop lt8 a s.1 s.2.1 s.2.2=R2/\RB X g sp s.2.2/\w.grownBy X (some g),fun s=>s.2.1+1-s.1,((I0+1),(K0-1),d2),(cvE rfl rfl),⟨⟨by show a+1<=(I0+1);omega,by show (I0+1)<=(K0-1)+1;omega,by show (K0-1)<b;omega⟩,hz2,hR2.symm,q2t,gt0⟩,?_⟩;rintro⟨i,j,e⟩ X ⟨⟨hi,hij,hjb⟩,hze,hR,hrX,gX⟩;dsimp only at hi hij hjb hze hR hrX;rw [Go.Sort.partLoop_eq] at hR;obtain⟨I,hI⟩:=nm (Go.Sort.scanUp (fun x=>lt8 x e[a]!) e j i);rw [<- hI] at hR;obtain⟨J,hJ⟩:=nm (Go.Sort.scanDown (fun x => !lt8 x e[a]!) e I j);rw [<- hJ] at hR;refine⟨Unit,fun _=>⟨[(0,.slice (some ⟨g,0,none⟩) L cap),(1,i64 a),(2,i64 b),(3,i64 pivot),(10,i64 (I:Nat)),(11,i64 (j:Nat))],[]⟩,fun _ X=>(i<=I/\I<=j+1/\(I<=j->lt8 e[I]! e[a]! = false))/\RB X g sp e/\w.grownBy X (some g),?_,?_⟩
   ·refine⟨Nat,fun u=>⟨[(0,.slice (some ⟨g,0,none⟩) L cap),(1,i64 a),(2,i64 b),(3,i64 pivot),(10,i64 (u:Nat)),(11,i64 (j:Nat))],[]⟩,fun u X=>i<=u/\u<=j+1/\Go.Sort.scanUp (fun x=>lt8 x e[a]!) e j u=I/\RB X g sp e/\w.grownBy X (some g),fun u=>j+1-u,i,(cvE rfl rfl),⟨by omega,by omega,hI.symm,hrX,gX⟩,?_⟩;rintro u Y ⟨hi,hij,hRs,hrY,gY⟩;have gYd:=zd gY (zt Y g);have qd:RB Y.drew g sp e:=hrY;refine DrawE.ord [] [0,1,2,3,4,5,6,7,8,9,10,11,12,13] (by kernel_rfl) (biE (fun h2=>?_) fun h2=>?_)
    ·have h2:(u:Int)<=(j:Int):=dT h2;have h2:u<=j:=(by omega);have hx1:u<e.size:=(by omega);have hx2:a<e.size:=(by omega);refine⟨u,rfl,by omega,?_⟩;refine⟨_,zq qd hx1,a,rfl,by omega,?_⟩;refine⟨_,zq qd hx2,cmo jA ?_⟩;rintro e _ ⟨rfl,rfl⟩;refine⟨Ge _ _,biE (fun h3=>?_) fun h3=>?_⟩
     ·have h3:lt8 e[u]! e[a]! = true:=h3;rw [zdy (p:=fun x=>lt8 x e[a]!) h2 h3] at hRs;exact⟨((u+1:Nat):Int),(ze (by first | omega | (dsimp only;omega))).trans (by first | omega | (dsimp only;omega)),u+1,(cvE rfl rfl),⟨by omega,by omega,hRs,qd,gYd⟩,zdc (by omega)⟩
     ·have h3:lt8 e[u]! e[a]! = false:=h3;rw [zbh (p:=fun x=>lt8 x e[a]!) fun _=>h3] at hRs;subst hRs;exact⟨(),(cvE rfl rfl),⟨hi,hij,fun _=>h3⟩,qd,gYd⟩
    ·have h2:¬ (u:Int)<=(j:Int):=dF h2;refine Gj (fun h=>by cases h) (fun _=>?_);rw [zbh (p:=fun x=>lt8 x e[a]!) fun h=>Gt h (by omega)] at hRs;subst hRs;exact⟨(),(cvE rfl rfl),⟨hi,hij,fun h=>Gt h (by omega)⟩,qd,gYd⟩
   rintro _ Y ⟨⟨hI1,hI2,hI3⟩,hrY,gY⟩;refine⟨Unit,fun _=>⟨[(0,.slice (some ⟨g,0,none⟩) L cap),(1,i64 a),(2,i64 b),(3,i64 pivot),(10,i64 (I:Nat)),(11,i64 (J:Nat))],[]⟩,fun _ X=>(J<=j/\I<=J+1/\(I<=J->(!lt8 e[J]! e[a]!)=false))/\RB X g sp e/\w.grownBy X (some g),?_,?_⟩
   ·refine⟨Nat,fun k=>⟨[(0,.slice (some ⟨g,0,none⟩) L cap),(1,i64 a),(2,i64 b),(3,i64 pivot),(10,i64 (I:Nat)),(11,i64 (k:Nat))],[]⟩,fun k X=>k<=j/\I<=k+1/\Go.Sort.scanDown (fun x => !lt8 x e[a]!) e I k=J/\RB X g sp e/\w.grownBy X (some g),fun k=>k,j,(cvE rfl rfl),⟨UZ _,by omega,hJ.symm,hrY,gY⟩,?_⟩;rintro k Y ⟨hi,hij,hRs,hrY,gY⟩;have gYd:=zd gY (zt Y g);have qd:RB Y.drew g sp e:=hrY;refine DrawE.ord [] [0,1,2,3,4,5,6,7,8,9,10,11,12,13,14] (by kernel_rfl) (biE (fun h2=>?_) fun h2=>?_)
    ·have h2:(I:Int)<=(k:Int):=dT h2;have h2:I<=k:=(by omega);have hx1:k<e.size:=(by omega);have hx2:a<e.size:=(by omega);refine⟨k,rfl,by omega,?_⟩;refine⟨_,zq qd hx1,a,rfl,by omega,?_⟩;refine⟨_,zq qd hx2,cmo jA ?_⟩;rintro e _ ⟨rfl,rfl⟩;refine⟨Ge _ _,biE (fun h3=>?_) fun h3=>?_⟩
     ·have h3:(!lt8 e[k]! e[a]!)=true:=h3;obtain⟨m,rfl⟩:∃ m,k=m+1:=⟨k-1,by omega⟩;rw [zcm (p:=fun x => !lt8 x e[a]!) h2 h3] at hRs;exact⟨((m:Nat):Int),(ze (by first | omega | (dsimp only;omega))).trans (by first | omega | (dsimp only;omega)),m,(cvE rfl rfl),⟨by omega,by omega,hRs,qd,gYd⟩,QE m⟩
     ·have h3:(!lt8 e[k]! e[a]!)=false:=h3;rw [zam (p:=fun x => !lt8 x e[a]!) fun _=>h3] at hRs;subst hRs;exact⟨(),(cvE rfl rfl),⟨hi,hij,fun _=>h3⟩,qd,gYd⟩
    ·have h2:¬ (I:Int)<=(k:Int):=dF h2;refine Gj (fun h=>by cases h) (fun _=>?_);rw [zam (p:=fun x => !lt8 x e[a]!) fun h=>Gt h (by omega)] at hRs;subst hRs;exact⟨(),(cvE rfl rfl),⟨hi,hij,fun h=>Gt h (by omega)⟩,qd,gYd⟩
   rintro _ Z ⟨⟨hJ1,hJ2,hJ3⟩,hrZ,gZ⟩;refine biE (fun hc=>?_) fun hc=>?_
   ·have hc:(J:Int)<(I:Int):=dT hc;rw [Gs (by omega)] at hR;subst hR;exact⟨(),(cvE rfl rfl),⟨by show a<=J;omega,by show J<b;omega⟩,hze,hrZ,gZ⟩
   ·have hc:¬ (J:Int)<(I:Int):=dF hc;rw [Gr (by omega)] at hR;have hne:I≠J:=fun h=>by
     have e1:=hI3 (by omega);have e2:=hJ3 (by omega);rw [h] at e1;rw [e1] at e2
     cases e2
    have hx1:I<e.size:=(by omega);have hx2:J<e.size:=(by omega);have qe:RB Z.drew g sp e:=hrZ;refine DrawE.ord [13,15] [0,1,2,3,4,5,6,7,8,9,10,11,12,13,14,15] (by kernel_rfl) ⟨J,rfl,by omega,?_⟩;refine⟨_,zq qe hx2,I,rfl,by omega,?_⟩;refine⟨_,zq qe hx1,I,rfl,by omega,?_⟩;refine zE k5 rfl qe hx1 e[J]! fun V1 q1 g1=>⟨J,rfl,by omega,?_⟩;refine zE k5 rfl q1 (by rw [Array.size_setIfInBounds];exact hx2) e[I]! fun V2 q2 g2=>?_;have q2:RB V2 g sp (swp e (I) (J)):=q2;have z2:(swp e (I) (J)).size=e.size:=Go.Sort.size_swp e (I) (J);exact⟨((I+1:Nat):Int),(ze (by first | omega | (dsimp only;omega))).trans (by first | omega | (dsimp only;omega)),((J-1:Nat):Int),(ze (by first | omega | (dsimp only;omega))).trans (by first | omega | (dsimp only;omega)),(I+1,J-1,swp e I J),(cvE rfl rfl),⟨⟨by show a+1<=I+1;omega,by show I+1<=J-1+1;omega,by show J-1<b;omega⟩,by show (swp e I J).size=L;rw [z2];exact hze,hR,q2,zd gZ (zd (zt _ g) (zd g1 g2))⟩,by show J-1+1-(I+1)<j+1-i;omega⟩
  rintro _ X2 ⟨⟨hm1,hm2⟩,hzR,hrX2,gX2⟩;rw [<- hR2] at hPE;have hy1:R2.1<R2.2.size:=by omega
  have hy2:a<R2.2.size:=by omega
  have qf:RB X2.drew g sp R2.2:=hrX2;refine DrawE.ord [13,15] [0,1,2,3,4,5,6,7,8,9,10,11,12,13,14,15] (by kernel_rfl) ⟨a,rfl,by omega,?_⟩;refine⟨_,zq qf hy2,R2.1,rfl,by omega,?_⟩;refine⟨_,zq qf hy1,R2.1,rfl,by omega,?_⟩;refine zE k5 rfl qf hy1 R2.2[a]! fun V1u q1u g1u=>⟨a,rfl,by omega,?_⟩;refine zE k5 rfl q1u (by rw [Array.size_setIfInBounds];exact hy2) R2.2[R2.1]! fun V2u q2u g2u=>?_;have q2u:RB V2u g sp (swp R2.2 (R2.1) (a)):=q2u;have z2u:(swp R2.2 (R2.1) (a)).size=R2.2.size:=Go.Sort.size_swp R2.2 (R2.1) (a);exact⟨R2.1,false,_,hPE,rfl,q2u,zd gX2 (zd (zt _ g) (zd g1u g2u))⟩
theorem znW (hr:RB w g sp d) (hL:d.size=L) (hap:a<=pivot) (hpb:pivot<b) (hb:b<=L) (hl:L<=1000000) :
  Calls PG 144 #[.slice (some ⟨g,0,none⟩) L cap,i64 a,i64 b,i64 pivot] w fun e w'=>∃ m d',Go.Sort.partitionEqual lt8 d a b pivot=(m,d')/\e = .returned (i64 (m:Nat))/\RB w' g sp d'/\w.grownBy w' (some g):=by
 refine jf 84 [.slice (some ⟨g,0,none⟩) L cap,i64 a,i64 b,i64 pivot] (.s .p (.s .p (.s .p (.c (.b (.l (.b (.c .p (.c .p .p))))) .p)))) Tryz.func144 ?_;have ha1:a<d.size:=by omega
 have ha2:pivot<d.size:=by omega
 have q0:RB w.drew g sp d:=hr;refine DrawE.ord [13,15] [0,1,2,3,4,5,6,7,8,9,10,11,12,13,14,15] (by kernel_rfl) ⟨pivot,rfl,by omega,?_⟩;refine⟨_,zq q0 ha2,a,rfl,by omega,?_⟩;refine⟨_,zq q0 ha1,a,rfl,by omega,?_⟩;refine zE k5 rfl q0 ha1 d[pivot]! fun V1s q1s g1s=>⟨pivot,rfl,by omega,?_⟩;refine zE k5 rfl q1s (by rw [Array.size_setIfInBounds];exact ha2) d[a]! fun V2s q2s g2s=>?_;have q2s:RB V2s g sp (swp d (a) (pivot)):=q2s;have z2s:(swp d (a) (pivot)).size=d.size:=Go.Sort.size_swp d (a) (pivot);obtain⟨d1,hd1⟩:=nm (swp d a pivot);rw [<- hd1] at q2s z2s;have g0:=zd (zt w g) (zd g1s g2s);have hz1:d1.size=L:=by rw [z2s];exact hL
 refine⟨((a+1:Nat):Int),(ze (by first | omega | (dsimp only;omega))).trans (by first | omega | (dsimp only;omega)),?_⟩;obtain⟨J0,hJ0⟩:=nm (b-1);refine⟨((J0:Nat):Int),(ze (by first | omega | (dsimp only;omega))).trans (by first | omega | (dsimp only;omega)),?_⟩;have hPE:Go.Sort.partitionEqual lt8 d a b pivot=Go.Sort.partEqLoop lt8 a (a+1) J0 d1:=by rw [hJ0,hd1];rfl
 obtain⟨R2,hR2⟩:=nm (Go.Sort.partEqLoop lt8 a (a+1) J0 d1);refine⟨Unit,fun _=>⟨[(0,.slice (some ⟨g,0,none⟩) L cap),(1,i64 a),(2,i64 b),(3,i64 pivot),(9,i64 (R2.1:Nat))],[]⟩,fun _ X=>(a<=R2.1/\R2.1<=b)/\R2.2.size=L/\RB X g sp R2.2/\w.grownBy X (some g),?_,?_⟩
 ·refine⟨Nat×Nat×Array UInt8,fun s=>⟨[(0,.slice (some ⟨g,0,none⟩) L cap),(1,i64 a),(2,i64 b),(3,i64 pivot),(9,i64 (s.1:Nat)),(10,i64 (s.2.1:Nat))],[]⟩,fun s X=>(a+1<=s.1/\s.1<=s.2.1+1/\s.2.1<b)/\s.2.2.size=L/\Go.Sort.partEqLoop lt8 a s.1 s.2.1 s.2.2=R2/\RB X g sp s.2.2/\w.grownBy X (some g),fun s=>s.2.1+1-s.1,((a+1),J0,d1),(cvE rfl rfl),⟨⟨by show a+1<=(a+1);omega,by show (a+1)<=J0+1;omega,by show J0<b;omega⟩,hz1,hR2.symm,q2s,g0⟩,?_⟩;rintro⟨i,j,e⟩ X ⟨⟨hi,hij,hjb⟩,hze,hR,hrX,gX⟩;dsimp only at hi hij hjb hze hR hrX;rw [Go.Sort.partEqLoop_eq] at hR;obtain⟨I,hI⟩:=nm (Go.Sort.scanUp (fun x => !lt8 e[a]! x) e j i);rw [<- hI] at hR;obtain⟨J,hJ⟩:=nm (Go.Sort.scanDown (fun x=>lt8 e[a]! x) e I j);rw [<- hJ] at hR;refine⟨Unit,fun _=>⟨[(0,.slice (some ⟨g,0,none⟩) L cap),(1,i64 a),(2,i64 b),(3,i64 pivot),(9,i64 (I:Nat)),(10,i64 (j:Nat))],[]⟩,fun _ X=>(i<=I/\I<=j+1/\(I<=j->(!lt8 e[a]! e[I]!)=false))/\RB X g sp e/\w.grownBy X (some g),?_,?_⟩
  ·refine⟨Nat,fun u=>⟨[(0,.slice (some ⟨g,0,none⟩) L cap),(1,i64 a),(2,i64 b),(3,i64 pivot),(9,i64 (u:Nat)),(10,i64 (j:Nat))],[]⟩,fun u X=>i<=u/\u<=j+1/\Go.Sort.scanUp (fun x => !lt8 e[a]! x) e j u=I/\RB X g sp e/\w.grownBy X (some g),fun u=>j+1-u,i,(cvE rfl rfl),⟨by omega,by omega,hI.symm,hrX,gX⟩,?_⟩;rintro u Y ⟨hi,hij,hRs,hrY,gY⟩;have gYd:=zd gY (zt Y g);have qd:RB Y.drew g sp e:=hrY;refine DrawE.ord [] [0,1,2,3,4,5,6,7,8,9,10,11,12,13,14] (by kernel_rfl) (biE (fun h2=>?_) fun h2=>?_)
   ·have h2:(u:Int)<=(j:Int):=dT h2;have h2:u<=j:=(by omega);have hx1:u<e.size:=(by omega);have hx2:a<e.size:=(by omega);refine⟨a,rfl,by omega,?_⟩;refine⟨_,zq qd hx2,u,rfl,by omega,?_⟩;refine⟨_,zq qd hx1,cmo jA ?_⟩;rintro e _ ⟨rfl,rfl⟩;refine⟨Ge _ _,biE (fun h3=>?_) fun h3=>?_⟩
    ·have h3:(!lt8 e[a]! e[u]!)=true:=h3;rw [zdy (p:=fun x => !lt8 e[a]! x) h2 h3] at hRs;exact⟨((u+1:Nat):Int),(ze (by first | omega | (dsimp only;omega))).trans (by first | omega | (dsimp only;omega)),u+1,(cvE rfl rfl),⟨by omega,by omega,hRs,qd,gYd⟩,zdc (by omega)⟩
    ·have h3:(!lt8 e[a]! e[u]!)=false:=h3;rw [zbh (p:=fun x => !lt8 e[a]! x) fun _=>h3] at hRs;subst hRs;exact⟨(),(cvE rfl rfl),⟨hi,hij,fun _=>h3⟩,qd,gYd⟩
   ·have h2:¬ (u:Int)<=(j:Int):=dF h2;refine Gj (fun h=>by cases h) (fun _=>?_);rw [zbh (p:=fun x => !lt8 e[a]! x) fun h=>Gt h (by omega)] at hRs;subst hRs;exact⟨(),(cvE rfl rfl),⟨hi,hij,fun h=>Gt h (by omega)⟩,qd,gYd⟩
  rintro _ Y ⟨⟨hI1,hI2,hI3⟩,hrY,gY⟩;refine⟨Unit,fun _=>⟨[(0,.slice (some ⟨g,0,none⟩) L cap),(1,i64 a),(2,i64 b),(3,i64 pivot),(9,i64 (I:Nat)),(10,i64 (J:Nat))],[]⟩,fun _ X=>(J<=j/\I<=J+1/\(I<=J->lt8 e[a]! e[J]! = false))/\RB X g sp e/\w.grownBy X (some g),?_,?_⟩
  ·refine⟨Nat,fun k=>⟨[(0,.slice (some ⟨g,0,none⟩) L cap),(1,i64 a),(2,i64 b),(3,i64 pivot),(9,i64 (I:Nat)),(10,i64 (k:Nat))],[]⟩,fun k X=>k<=j/\I<=k+1/\Go.Sort.scanDown (fun x=>lt8 e[a]! x) e I k=J/\RB X g sp e/\w.grownBy X (some g),fun k=>k,j,(cvE rfl rfl),⟨UZ _,by omega,hJ.symm,hrY,gY⟩,?_⟩;rintro k Y ⟨hi,hij,hRs,hrY,gY⟩;have gYd:=zd gY (zt Y g);have qd:RB Y.drew g sp e:=hrY;refine DrawE.ord [] [0,1,2,3,4,5,6,7,8,9,10,11,12,13] (by kernel_rfl) (biE (fun h2=>?_) fun h2=>?_)
   ·have h2:(I:Int)<=(k:Int):=dT h2;have h2:I<=k:=(by omega);have hx1:k<e.size:=(by omega);have hx2:a<e.size:=(by omega);refine⟨a,rfl,by omega,?_⟩;refine⟨_,zq qd hx2,k,rfl,by omega,?_⟩;refine⟨_,zq qd hx1,cmo jA ?_⟩;rintro e _ ⟨rfl,rfl⟩;refine⟨Ge _ _,biE (fun h3=>?_) fun h3=>?_⟩
    ·have h3:lt8 e[a]! e[k]! = true:=h3;obtain⟨m,rfl⟩:∃ m,k=m+1:=⟨k-1,by omega⟩;rw [zcm (p:=fun x=>lt8 e[a]! x) h2 h3] at hRs;exact⟨((m:Nat):Int),(ze (by first | omega | (dsimp only;omega))).trans (by first | omega | (dsimp only;omega)),m,(cvE rfl rfl),⟨by omega,by omega,hRs,qd,gYd⟩,QE m⟩
    ·have h3:lt8 e[a]! e[k]! = false:=h3;rw [zam (p:=fun x=>lt8 e[a]! x) fun _=>h3] at hRs;subst hRs;exact⟨(),(cvE rfl rfl),⟨hi,hij,fun _=>h3⟩,qd,gYd⟩
   ·have h2:¬ (I:Int)<=(k:Int):=dF h2;refine Gj (fun h=>by cases h) (fun _=>?_);rw [zam (p:=fun x=>lt8 e[a]! x) fun h=>Gt h (by omega)] at hRs;subst hRs;exact⟨(),(cvE rfl rfl),⟨hi,hij,fun h=>Gt h (by omega)⟩,qd,gYd⟩
  rintro _ Z ⟨⟨hJ1,hJ2,hJ3⟩,hrZ,gZ⟩;refine biE (fun hc=>?_) fun hc=>?_
  ·have hc:(J:Int)<(I:Int):=dT hc;rw [Gs (by omega)] at hR;subst hR;exact⟨(),(cvE rfl rfl),⟨by show a<=I;omega,by show I<=b;omega⟩,hze,hrZ,gZ⟩
  ·have hc:¬ (J:Int)<(I:Int):=dF hc;rw [Gr (by omega)] at hR;have hne:I≠J:=fun h=>by
    have e1:=hI3 (by omega);have e2:=hJ3 (by omega);rw [h] at e1;rw [e2] at e1
    cases e1
   have hx1:I<e.size:=by omega
   have hx2:J<e.size:=by omega
   have qe:RB Z.drew g sp e:=hrZ;refine DrawE.ord [13,15] [0,1,2,3,4,5,6,7,8,9,10,11,12,13,14,15] (by kernel_rfl) ⟨J,rfl,by omega,?_⟩;refine⟨_,zq qe hx2,I,rfl,by omega,?_⟩;refine⟨_,zq qe hx1,I,rfl,by omega,?_⟩;refine zE k5 rfl qe hx1 e[J]! fun V1 q1 g1=>⟨J,rfl,by omega,?_⟩;refine zE k5 rfl q1 (by rw [Array.size_setIfInBounds];exact hx2) e[I]! fun V2 q2 g2=>?_;have q2:RB V2 g sp (swp e (I) (J)):=q2;have z2:(swp e (I) (J)).size=e.size:=Go.Sort.size_swp e (I) (J);exact⟨((I+1:Nat):Int),(ze (by first | omega | (dsimp only;omega))).trans (by first | omega | (dsimp only;omega)),((J-1:Nat):Int),(ze (by first | omega | (dsimp only;omega))).trans (by first | omega | (dsimp only;omega)),(I+1,J-1,swp e I J),(cvE rfl rfl),⟨⟨by show a+1<=I+1;omega,by show I+1<=J-1+1;omega,by show J-1<b;omega⟩,by show (swp e I J).size=L;rw [z2];exact hze,hR,q2,zd gZ (zd (zt _ g) (zd g1 g2))⟩,by show J-1+1-(I+1)<j+1-i;omega⟩
 rintro _ X ⟨⟨hm1,hm2⟩,hzR,hrX,gX⟩;exact⟨R2.1,R2.2,hPE.trans hR2.symm,rfl,hrX,gX⟩
end
theorem zms {d:Array UInt8} {b i:Nat} (h:i<b) (hp:lt8 d[i]! d[i-1]! = false):Go.Sort.scanSorted lt8 d b i=Go.Sort.scanSorted lt8 d b (i+1):=by
 rw [Go.Sort.scanSorted,Gs (by rw [Uv h,hp];rfl)]
theorem zi2 {d:Array UInt8} {b i:Nat} (h:i<b->lt8 d[i]! d[i-1]! = true):Go.Sort.scanSorted lt8 d b i=i:=by
 rw [Go.Sort.scanSorted];by_cases e:i<b
 ·rw [Gr (by rw [h e,Uz,Ul];exact Ky)]
 ·rw [Gr (by rw [Uk e];exact Ky)]
section
variable {w:Wd} {g cap L a b:Nat} {sp:List Value} {d:Array UInt8}
theorem zqZ (hr:RB w g sp d) (hL:d.size=L) (hab:a<b) (hb:b<=L) (hl:L<=1000000) :
  Calls PG 141 #[.slice (some ⟨g,0,none⟩) L cap,i64 a,i64 b] w fun e w'=>e = .returned (.tuple #[])/\RB w' g sp (Go.Sort.reverseRange d a b)/\w.grownBy w' (some g):=by
 refine zK 32 [.slice (some ⟨g,0,none⟩) L cap,i64 a,i64 b] Tryz.func141 ?_;obtain⟨R,hR⟩:=nm (Go.Sort.reverseRange d a b);rw [<- hR];refine⟨((b-1:Nat):Int),(ze (by first | omega | (dsimp only;omega))).trans (by first | omega | (dsimp only;omega)),Nat×Nat×Array UInt8,fun s=>⟨[(0,.slice (some ⟨g,0,none⟩) L cap),(1,i64 a),(2,i64 b),(6,i64 (s.1:Nat)),(7,i64 (s.2.1:Nat))],[]⟩,fun s X=>s.2.1<b/\s.2.2.size=L/\Go.Sort.reverseLoop s.1 s.2.1 s.2.2=R/\RB X g sp s.2.2/\w.grownBy X (some g),fun s=>s.2.1-s.1,(a,b-1,d),(cvE rfl rfl),⟨by show b-1<b;omega,hL,hR.symm,hr,z5 _ _⟩,?_⟩;rintro⟨i,j,e⟩ X ⟨hj,hze,hR1,hrX,gX⟩;dsimp only at hj hze hR1 hrX;rw [Go.Sort.reverseLoop] at hR1;refine biE (fun hc=>?_) fun hc=>?_
 ·have hc:(i:Int)<(j:Int):=dT hc;rw [Gs (by omega)] at hR1;have hx1:i<e.size:=by omega
  have hx2:j<e.size:=by omega
  have qd:RB X.drew g sp e:=hrX;refine DrawE.ord [13,15] [0,1,2,3,4,5,6,7,8,9,10,11,12,13,14,15] (by kernel_rfl) ⟨j,rfl,by omega,?_⟩;refine⟨_,zq qd hx2,i,rfl,by omega,?_⟩;refine⟨_,zq qd hx1,i,rfl,by omega,?_⟩;refine zE k5 rfl qd hx1 e[j]! fun V1 q1 g1=>⟨j,rfl,by omega,?_⟩;refine zE k5 rfl q1 (by rw [Array.size_setIfInBounds];exact hx2) e[i]! fun V2 q2 g2=>?_;have q2:RB V2 g sp (swp e (i) (j)):=q2;have z2:(swp e (i) (j)).size=e.size:=Go.Sort.size_swp e (i) (j);exact⟨((i+1:Nat):Int),(ze (by first | omega | (dsimp only;omega))).trans (by first | omega | (dsimp only;omega)),((j-1:Nat):Int),(ze (by first | omega | (dsimp only;omega))).trans (by first | omega | (dsimp only;omega)),(i+1,j-1,swp e i j),(cvE rfl rfl),⟨by show j-1<b;omega,by show (swp e i j).size=L;rw [z2];exact hze,hR1,q2,zd gX (zd (zt _ g) (zd g1 g2))⟩,by show j-1-(i+1)<j-i;omega⟩
 ·have hc:¬ (i:Int)<(j:Int):=dF hc;rw [Gr (by omega)] at hR1;exact⟨rfl,hR1▸hrX,gX⟩
theorem zmF (hr:RB w g sp d) (hL:d.size=L) (hab:a<b) (hb:b<=L) (hl:L<=1000000) :
  Calls PG 142 #[.slice (some ⟨g,0,none⟩) L cap,i64 a,i64 b] w fun e w'=>∃ d' ok,Go.Sort.partialInsertionSort lt8 d a b=(d',ok)/\e = .returned (.bool ok)/\RB w' g sp d'/\w.grownBy w' (some g):=by
 refine jf 133 [.slice (some ⟨g,0,none⟩) L cap,i64 a,i64 b] (.s .p (.s .p (.s (.s .p (.b (.l (.s .p (.c (.b (.c .p (.s .p (.s .p (.s .p (.c .p .p)))))) .p))))) .p))) Tryz.func142 ?_;obtain⟨R,hR⟩:=nm (Go.Sort.partialInsertionSort lt8 d a b);have fin:∀ Z d' ok,(d',ok)=R->RB Z g sp d'->w.grownBy Z (some g)->∃ d'' ok',Go.Sort.partialInsertionSort lt8 d a b=(d'',ok')/\Ending.returned (.bool ok) = .returned (.bool ok')/\RB Z g sp d''/\w.grownBy Z (some g):=fun Z d' ok e q gz=>⟨d',ok,by rw [<- hR,<- e],rfl,q,gz⟩;refine⟨((a+1:Nat):Int),(ze (by first | omega | (dsimp only;omega))).trans (by first | omega | (dsimp only;omega)),Nat×Nat×Array UInt8,fun s=>⟨[(0,.slice (some ⟨g,0,none⟩) L cap),(1,i64 a),(2,i64 b),(7,i64 (s.2.1:Nat)),(8,i64 (s.1:Nat))],[]⟩,fun s X=>(s.1<=5/\a+1<=s.2.1/\s.2.1<=b)/\s.2.2.size=L/\Go.Sort.partialIns lt8 a b (5-s.1) s.2.1 s.2.2=R/\RB X g sp s.2.2/\w.grownBy X (some g),fun s=>5-s.1,(0,a+1,d),(cvE rfl rfl),⟨⟨by show 0<=5;decide,UZ _,by show a+1<=b;omega⟩,hL,hR.symm,hr,z5 _ _⟩,?_⟩;rintro⟨n,i,e⟩ X ⟨⟨hn,hi,hib⟩,hze,hR1,hrX,gX⟩;dsimp only at hn hi hib hze hR1 hrX;refine biE (fun hc=>?_) fun hc=>?_
 ·have hc:(n:Int)<5:=dT hc;have hn5:5-n=(5-(n+1))+1:=by omega
  rw [hn5] at hR1;obtain⟨I,hI⟩:=nm (Go.Sort.scanSorted lt8 e b i);have hR1:(if I=b then (e,true) else if b-a<50 then (e,false) else Go.Sort.partialIns lt8 a b (5-(n+1)) I (if b-I ≥ 2 then Go.Sort.shiftUp lt8 b (I+1) (if I-a ≥ 2 then Go.Sort.shiftDown lt8 (I-1) (swp e I (I-1)) else swp e I (I-1)) else (if I-a ≥ 2 then Go.Sort.shiftDown lt8 (I-1) (swp e I (I-1)) else swp e I (I-1))))=R:=by rw [hI];exact hR1
  obtain⟨D1,hD1⟩:=nm (swp e I (I-1));obtain⟨D2,hD2⟩:=nm ((if I-a ≥ 2 then Go.Sort.shiftDown lt8 (I-1) D1 else D1));obtain⟨D3,hD3⟩:=nm ((if b-I ≥ 2 then Go.Sort.shiftUp lt8 b (I+1) D2 else D2));rw [<- hD1,<- hD2,<- hD3] at hR1;refine⟨Unit,fun _=>⟨[(0,.slice (some ⟨g,0,none⟩) L cap),(1,i64 a),(2,i64 b),(7,i64 (I:Nat)),(8,i64 (n:Nat))],[]⟩,fun _ Y=>(a+1<=I/\I<=b)/\D3.size=L/\Go.Sort.partialIns lt8 a b (5-(n+1)) I D3=R/\RB Y g sp D3/\w.grownBy Y (some g),?_,?_⟩
  ·refine⟨Unit,fun _=>⟨[(0,.slice (some ⟨g,0,none⟩) L cap),(1,i64 a),(2,i64 b),(7,i64 (I:Nat)),(8,i64 (n:Nat))],[]⟩,fun _ Y=>(a+1<=I/\I<=b)/\RB Y g sp e/\w.grownBy Y (some g),?_,?_⟩
   ·refine⟨Nat,fun k=>⟨[(0,.slice (some ⟨g,0,none⟩) L cap),(1,i64 a),(2,i64 b),(7,i64 (k:Nat)),(8,i64 (n:Nat))],[]⟩,fun k Y=>(a+1<=k/\k<=b)/\Go.Sort.scanSorted lt8 e b k=I/\RB Y g sp e/\w.grownBy Y (some g),fun k=>b-k,i,(cvE rfl rfl),⟨⟨hi,hib⟩,hI.symm,hrX,gX⟩,?_⟩;rintro k Y ⟨⟨hk1,hk2⟩,hRs,hrY,gY⟩;have gYd:=zd gY (zt Y g);have qd:RB Y.drew g sp e:=hrY;refine DrawE.ord [] [0,1,2,3,4,5,6,7,8,9,10,11,12,13,14,15] (by kernel_rfl) (biE (fun h2=>?_) fun h2=>?_)
    ·have h2:(k:Int)<(b:Int):=dT h2;have h2:k<b:=(by omega);have hx1:k<e.size:=(by omega);have hx2:k-1<e.size:=(by omega);refine⟨k,rfl,by omega,?_⟩;refine⟨_,zq qd hx1,((k-1:Nat):Int),(ze (by first | omega | (dsimp only;omega))).trans (by first | omega | (dsimp only;omega)),k-1,rfl,by omega,?_⟩;refine⟨_,zq qd hx2,cmo jA ?_⟩;rintro e _ ⟨rfl,rfl⟩;refine⟨Ge _ _,biE (fun h3=>?_) fun h3=>?_⟩
     ·have h3:(!lt8 e[k]! e[k-1]!)=true:=h3;have h3:lt8 e[k]! e[k-1]! = false:=(by simpa using h3);rw [zms h2 h3] at hRs;exact⟨((k+1:Nat):Int),(ze (by first | omega | (dsimp only;omega))).trans (by first | omega | (dsimp only;omega)),k+1,(cvE rfl rfl),⟨⟨by omega,by omega⟩,hRs,qd,gYd⟩,zdc (by omega)⟩
     ·have h3:(!lt8 e[k]! e[k-1]!)=false:=h3;have h3:lt8 e[k]! e[k-1]! = true:=(by simpa using h3);rw [zi2 fun _=>h3] at hRs;subst hRs;exact⟨(),(cvE rfl rfl),⟨hk1,hk2⟩,qd,gYd⟩
    ·have h2:¬ (k:Int)<(b:Int):=dF h2;refine Gj (fun h=>by cases h) (fun _=>?_);rw [zi2 fun h=>Gt h (by omega)] at hRs;subst hRs;exact⟨(),(cvE rfl rfl),⟨hk1,hk2⟩,qd,gYd⟩
   rintro _ Y ⟨⟨hI1,hI2⟩,hrY,gY⟩;refine biE (fun h=>?_) fun h=>?_
   ·have h:(I:Int)=(b:Int):=dT h;rw [Gs (by omega)] at hR1;exact fin _ _ _ hR1 hrY gY
   ·have h:¬ (I:Int)=(b:Int):=dF h;have hIb:I<b:=(by omega);rw [Gr (by omega)] at hR1;refine⟨((b-a:Nat):Int),(ze (by first | omega | (dsimp only;omega))).trans (by first | omega | (dsimp only;omega)),biE (fun h5=>?_) fun h5=>?_⟩
    ·have h5:((b-a:Nat):Int)<50:=dT h5;rw [Gs (by omega)] at hR1;exact fin _ _ _ hR1 hrY gY
    ·have h5:¬ ((b-a:Nat):Int)<50:=dF h5;rw [Gr (by omega)] at hR1;have hx1:I<e.size:=(by omega);have hx2:I-1<e.size:=(by omega);have qd:RB Y.drew g sp e:=hrY;refine DrawE.ord [15,17] [0,1,2,3,4,5,6,7,8,9,10,11,12,13,14,15,16,17] (by kernel_rfl) ⟨((I-1:Nat):Int),(ze (by first | omega | (dsimp only;omega))).trans (by first | omega | (dsimp only;omega)),((I-1:Nat):Int),(ze (by first | omega | (dsimp only;omega))).trans (by first | omega | (dsimp only;omega)),I-1,rfl,by omega,?_⟩;refine⟨_,zq qd hx2,I,rfl,by omega,?_⟩;refine⟨_,zq qd hx1,I,rfl,by omega,?_⟩;refine zE k5 rfl qd hx1 e[I-1]! fun V1s q1s g1s=>⟨I-1,rfl,by omega,?_⟩;refine zE k5 rfl q1s (by rw [Array.size_setIfInBounds];exact hx2) e[I]! fun V2s q2s g2s=>?_;have q2s:RB V2s g sp (swp e (I) (I-1)):=q2s;have z2s:(swp e (I) (I-1)).size=e.size:=Go.Sort.size_swp e (I) (I-1);rw [<- hD1] at q2s z2s;have gs:=zd gY (zd (zt _ g) (zd g1s g2s));have hz1:D1.size=L:=(by rw [z2s];exact hze);refine⟨Unit,fun _=>⟨[(0,.slice (some ⟨g,0,none⟩) L cap),(1,i64 a),(2,i64 b),(7,i64 (I:Nat)),(8,i64 (n:Nat))],[]⟩,fun _ Z=>D2.size=L/\RB Z g sp D2/\w.grownBy Z (some g),?_,?_⟩
     ·refine⟨((I-a:Nat):Int),(ze (by first | omega | (dsimp only;omega))).trans (by first | omega | (dsimp only;omega)),biE (fun h6=>?_) fun h6=>?_⟩
      ·have h6:(2:Int)<=((I-a:Nat):Int):=dT h6;rw [Gs (by omega)] at hD2;refine⟨((I-1:Nat):Int),(ze (by first | omega | (dsimp only;omega))).trans (by first | omega | (dsimp only;omega)),Nat×Array UInt8,fun s=>⟨[(0,.slice (some ⟨g,0,none⟩) L cap),(1,i64 a),(2,i64 b),(7,i64 (I:Nat)),(8,i64 (n:Nat)),(9,i64 (s.1:Nat))],[]⟩,fun s V=>(s.1<=I-1)/\s.2.size=L/\Go.Sort.shiftDown lt8 s.1 s.2=D2/\RB V g sp s.2/\w.grownBy V (some g),fun s=>s.1,(I-1,D1),(cvE rfl rfl),⟨UZ _,hz1,hD2.symm,q2s,gs⟩,?_⟩;rintro⟨k,f⟩ V ⟨hk,hzf,hRf,hrV,gV⟩;dsimp only at hk hzf hRf hrV;refine biE (fun h7=>?_) fun h7=>?_
       ·have h7:(1:Int)<=(k:Int):=dT h7;obtain⟨m,rfl⟩:∃ m,k=m+1:=⟨k-1,by omega⟩;have hRf:(if (!lt8 f[m+1]! f[m]!)=true then f else Go.Sort.shiftDown lt8 m (swp f (m+1) m))=D2:=hRf;have hx3:m+1<f.size:=(by omega);have hx4:m<f.size:=(by omega);have qv:RB V.drew g sp f:=hrV;have gVd:=zd gV (zt V g);refine DrawE.ord [] [0,1,2,3,4,5,6,7,8,9,10] (by kernel_rfl) ⟨m+1,rfl,by omega,?_⟩;refine⟨_,zq qv hx3,((m:Nat):Int),(ze (by first | omega | (dsimp only;omega))).trans (by first | omega | (dsimp only;omega)),m,rfl,by omega,?_⟩;refine⟨_,zq qv hx4,cmo jA ?_⟩;rintro e _ ⟨rfl,rfl⟩;refine⟨Ge _ _,biE (fun h8=>?_) fun h8=>?_⟩
        ·have h8:(!lt8 f[m+1]! f[m]!)=true:=h8;rw [Gs h8] at hRf;subst hRf;exact⟨(),(cvE rfl rfl),hzf,qv,gVd⟩
        ·have h8:(!lt8 f[m+1]! f[m]!)=false:=h8;rw [Gr (by rw [h8];exact Ky)] at hRf;have qw:RB V.drew.drew g sp f:=hrV;refine DrawE.ord [15,17] [0,1,2,3,4,5,6,7,8,9,10,11,12,13,14,15,16,17] (by kernel_rfl) ⟨((m:Nat):Int),(ze (by first | omega | (dsimp only;omega))).trans (by first | omega | (dsimp only;omega)),((m:Nat):Int),(ze (by first | omega | (dsimp only;omega))).trans (by first | omega | (dsimp only;omega)),m,rfl,by omega,?_⟩;refine⟨_,zq qw hx4,m+1,rfl,by omega,?_⟩;refine⟨_,zq qw hx3,m+1,rfl,by omega,?_⟩;refine zE k5 rfl qw hx3 f[m]! fun V1 q1 g1=>⟨m,rfl,by omega,?_⟩;refine zE k5 rfl q1 (by rw [Array.size_setIfInBounds];exact hx4) f[m+1]! fun V2 q2 g2=>?_;have q2:RB V2 g sp (swp f (m+1) (m)):=q2;have z2:(swp f (m+1) (m)).size=f.size:=Go.Sort.size_swp f (m+1) (m);exact⟨((m:Nat):Int),(ze (by first | omega | (dsimp only;omega))).trans (by first | omega | (dsimp only;omega)),(m,swp f (m+1) m),(cvE rfl rfl),⟨by show m<=I-1;omega,by show (swp f _ _).size=L;rw [z2];exact hzf,hRf,q2,zd gVd (zd (zt _ g) (zd g1 g2))⟩,QE m⟩
       ·have h7:¬ (1:Int)<=(k:Int):=dF h7;obtain rfl:k=0:=(by omega);have hRf:f=D2:=hRf;subst hRf;exact⟨(),(cvE rfl rfl),hzf,hrV,gV⟩
      ·have h6:¬ (2:Int)<=((I-a:Nat):Int):=dF h6;rw [Gr (by omega)] at hD2;subst hD2;exact⟨(),(cvE rfl rfl),hz1,q2s,gs⟩
     rintro _ Z ⟨hzZ,hrZ,gZ⟩;refine⟨((b-I:Nat):Int),(ze (by first | omega | (dsimp only;omega))).trans (by first | omega | (dsimp only;omega)),biE (fun h6=>?_) fun h6=>?_⟩
     ·have h6:(2:Int)<=((b-I:Nat):Int):=dT h6;rw [Gs (by omega)] at hD3;refine⟨((I+1:Nat):Int),(ze (by first | omega | (dsimp only;omega))).trans (by first | omega | (dsimp only;omega)),Nat×Array UInt8,fun s=>⟨[(0,.slice (some ⟨g,0,none⟩) L cap),(1,i64 a),(2,i64 b),(7,i64 (I:Nat)),(8,i64 (n:Nat)),(10,i64 (s.1:Nat))],[]⟩,fun s V=>(I+1<=s.1/\s.1<=b)/\s.2.size=L/\Go.Sort.shiftUp lt8 b s.1 s.2=D3/\RB V g sp s.2/\w.grownBy V (some g),fun s=>b-s.1,(I+1,D2),(cvE rfl rfl),⟨⟨UZ _,by show I+1<=b;omega⟩,hzZ,hD3.symm,hrZ,gZ⟩,?_⟩;rintro⟨k,f⟩ V ⟨hk,hzf,hRf,hrV,gV⟩;dsimp only at hk hzf hRf hrV;refine biE (fun h7=>?_) fun h7=>?_
      ·have h7:(k:Int)<(b:Int):=dT h7;rw [Go.Sort.shiftUp,Gs (by omega)] at hRf;have hx3:k<f.size:=(by omega);have hx4:k-1<f.size:=(by omega);have qv:RB V.drew g sp f:=hrV;have gVd:=zd gV (zt V g);refine DrawE.ord [] [0,1,2,3,4,5,6,7,8,9,10] (by kernel_rfl) ⟨k,rfl,by omega,?_⟩;refine⟨_,zq qv hx3,((k-1:Nat):Int),(ze (by first | omega | (dsimp only;omega))).trans (by first | omega | (dsimp only;omega)),k-1,rfl,by omega,?_⟩;refine⟨_,zq qv hx4,cmo jA ?_⟩;rintro e _ ⟨rfl,rfl⟩;refine⟨Ge _ _,biE (fun h8=>?_) fun h8=>?_⟩
       ·have h8:(!lt8 f[k]! f[k-1]!)=true:=h8;rw [Gs h8] at hRf;subst hRf;exact⟨(),(cvE rfl rfl),⟨hI1,hI2⟩,hzf,hR1,qv,gVd⟩
       ·have h8:(!lt8 f[k]! f[k-1]!)=false:=h8;rw [Gr (by rw [h8];exact Ky)] at hRf;have qw:RB V.drew.drew g sp f:=hrV;refine DrawE.ord [15,17] [0,1,2,3,4,5,6,7,8,9,10,11,12,13,14,15,16,17] (by kernel_rfl) ⟨((k-1:Nat):Int),(ze (by first | omega | (dsimp only;omega))).trans (by first | omega | (dsimp only;omega)),((k-1:Nat):Int),(ze (by first | omega | (dsimp only;omega))).trans (by first | omega | (dsimp only;omega)),k-1,rfl,by omega,?_⟩;refine⟨_,zq qw hx4,k,rfl,by omega,?_⟩;refine⟨_,zq qw hx3,k,rfl,by omega,?_⟩;refine zE k5 rfl qw hx3 f[k-1]! fun V1 q1 g1=>⟨k-1,rfl,by omega,?_⟩;refine zE k5 rfl q1 (by rw [Array.size_setIfInBounds];exact hx4) f[k]! fun V2 q2 g2=>?_;have q2:RB V2 g sp (swp f (k) (k-1)):=q2;have z2:(swp f (k) (k-1)).size=f.size:=Go.Sort.size_swp f (k) (k-1);exact⟨((k+1:Nat):Int),(ze (by first | omega | (dsimp only;omega))).trans (by first | omega | (dsimp only;omega)),(k+1,swp f k (k-1)),(cvE rfl rfl),⟨⟨by show I+1<=k+1;omega,by show k+1<=b;omega⟩,by show (swp f _ _).size=L;rw [z2];exact hzf,hRf,q2,zd gVd (zd (zt _ g) (zd g1 g2))⟩,zdc (by omega)⟩
      ·have h7:¬ (k:Int)<(b:Int):=dF h7;rw [Go.Sort.shiftUp,Gr (by omega)] at hRf;subst hRf;exact⟨(),(cvE rfl rfl),⟨hI1,hI2⟩,hzf,hR1,hrV,gV⟩
     ·have h6:¬ (2:Int)<=((b-I:Nat):Int):=dF h6;rw [Gr (by omega)] at hD3;subst hD3;exact⟨(),(cvE rfl rfl),⟨hI1,hI2⟩,hzZ,hR1,hrZ,gZ⟩
  rintro _ Y ⟨⟨hI1,hI2⟩,hz3,hR3,hrY,gY⟩;exact⟨((n+1:Nat):Int),(ze (by first | omega | (dsimp only;omega))).trans (by first | omega | (dsimp only;omega)),(n+1,I,D3),(cvE rfl rfl),⟨⟨by show n+1<=5;omega,hI1,hI2⟩,hz3,hR3,hrY,gY⟩,zdc (by omega)⟩
 ·have hc:¬ (n:Int)<5:=dF hc;obtain rfl:n=5:=by omega
  have hR1:(e,false)=R:=hR1;exact fin _ _ _ hR1 hrX gX
end
abbrev zgY (w:Wd) (s:Nat) (v:Int):Prop:=w.heap[s]?=some (.cells #[.int .i64 v] 3 (0,0))
theorem zlP {w:Wd} {s:Nat} {v:Int} (h:zgY w s v):w.cell? ⟨s,0,none⟩=some (.int .i64 v):=zc (za h) (i:=0) rfl
section
variable {w:Wd} {g cap L a b s:Nat} {v:Int} {sp:List Value} {d:Array UInt8}
theorem zd6 {w2:Wd} (h:RB w g sp d) (hg:w.grownBy w2 (some s)) (hs:s≠g):RB w2 g sp d:=by
 refine RowS.same h (hg.block g (RowS.lt h) fun e=>hs ?_)
 cases e;rfl
theorem zge (hr:RB w g sp d) (hL:d.size=L) (hb:zgY w s v) (hs:s≠g) (ha:a<L) (hbL:b<L) (hl:L<=1000000) :
  Calls PG 168 #[.slice (some ⟨g,0,none⟩) L cap,i64 a,i64 b,At0 s] w fun e w'=>(∃ x y:Nat,e = .returned (.tuple #[i64 x,i64 y])/\((x=a/\y=b)\/(x=b/\y=a)))/\(∃ u,zgY w' s u)/\w.grownBy w' (some s):=by
 refine zK 28 [.slice (some ⟨g,0,none⟩) L cap,i64 a,i64 b,At0 s] Tryz.func168 ?_;have qd:RB w.drew g sp d:=hr;have hx1:a<d.size:=by omega
 have hx2:b<d.size:=by omega
 have hbd:zgY w.drew s v:=hb;refine DrawE.ord [] [0,1,2,3,4,5,6,7,8] (by kernel_rfl) ⟨b,rfl,by omega,?_⟩;refine⟨_,zq qd hx2,a,rfl,by omega,?_⟩;refine⟨_,zq qd hx1,cmo jA ?_⟩;rintro e _ ⟨rfl,rfl⟩;refine⟨Ge _ _,biE (fun h=>?_) fun h=>?_⟩
 ·exact⟨_,zlP hbd,_,rfl,qQ k3 rfl hbd (o:=0) (by show 0<1;decide) (v := .int .i64 (IntKind.i64.wrap (v+1))) rfl rfl fun Y fY gY sY=>⟨⟨b,a,rfl,.inr ⟨rfl,rfl⟩⟩,⟨_,fY⟩,zd (zt w s) gY⟩⟩
 ·exact⟨⟨a,b,rfl,.inl ⟨rfl,rfl⟩⟩,⟨_,hbd⟩,zt w s⟩
theorem zjx {c:Nat} (hr:RB w g sp d) (hL:d.size=L) (hb:zgY w s v) (hs:s≠g) (ha:a<L) (hbL:b<L) (hcL:c<L) (hl:L<=1000000) :
  Calls PG 159 #[.slice (some ⟨g,0,none⟩) L cap,i64 a,i64 b,i64 c,At0 s] w fun e w'=>(∃ x:Nat,e = .returned (i64 x)/\(x=a\/x=b\/x=c))/\(∃ u,zgY w' s u)/\w.grownBy w' (some s):=by
 refine zK 36 [.slice (some ⟨g,0,none⟩) L cap,i64 a,i64 b,i64 c,At0 s] Tryz.func159 ?_;refine cmo (zge hr hL hb hs ha hbL hl) ?_;rintro e X ⟨⟨x,y,rfl,hxy⟩,⟨u,bX⟩,gX⟩;have rX:=zd6 hr gX hs;refine cmo (zge rX hL bX hs (a:=y) (b:=c) (by omega) hcL hl) ?_;rintro e Y ⟨⟨x2,y2,rfl,hxy2⟩,⟨u2,bY⟩,gY⟩;have rY:=zd6 rX gY hs;refine cmo (zge rY hL bY hs (a:=x) (b:=x2) (by omega) (by omega) hl) ?_;rintro e Z ⟨⟨x3,y3,rfl,hxy3⟩,bZ,gZ⟩;exact⟨⟨y3,rfl,by omega⟩,bZ,zd gX (zd gY gZ)⟩
theorem zgr (hr:RB w g sp d) (hL:d.size=L) (hb:zgY w s v) (hs:s≠g) (ha:1<=a) (haL:a+1<L) (hl:L<=1000000) :
  Calls PG 158 #[.slice (some ⟨g,0,none⟩) L cap,i64 a,At0 s] w fun e w'=>(∃ x:Nat,e = .returned (i64 x)/\(x=a-1\/x=a\/x=a+1))/\(∃ u,zgY w' s u)/\w.grownBy w' (some s):=by
 refine zK 15 [.slice (some ⟨g,0,none⟩) L cap,i64 a,At0 s] Tryz.func158 ?_;refine⟨((a-1:Nat):Int),(ze (by omega)).trans (by omega),nxI (by omega) (cmo (zjx hr hL hb hs (a:=a-1) (b:=a) (c:=a+1) (by omega) (by omega) haL hl) ?_)⟩;rintro e X ⟨⟨x,rfl,hx⟩,hb,hg⟩;exact⟨⟨x,rfl,hx⟩,hb,hg⟩
theorem zih (n k:Nat) (h:n<=1000000):IntKind.i64.wrap ((n:Int).tdiv (k:Int))=((n/k:Nat):Int):=by
 have e:(n:Int).tdiv (k:Int)=((n/k:Nat):Int):=rfl;have:n/k<=n:=Nat.div_le_self n k;rw [e];generalize n/k=q at this ⊢;exact ze (by omega)
theorem zsC {a b n q L:Nat} (hn:n=b-a) (hq:4*q<=n) (h2:2<=q) (hb:b<=L):(1<=a+q*1/\a+q*1+1<L)/\(1<=a+q*2/\a+q*2+1<L)/\(1<=a+q*3/\a+q*3+1<L):=by omega
theorem zmE {a b n q x:Nat} (hn:n=b-a) (hq:4*q<=n) (h2:2<=q) (k:Nat) (hk:k=1\/k=2\/k=3) (hx:x=a+q*k-1\/x=a+q*k\/x=a+q*k+1):a<=x/\x<b:=by
 rcases hk with rfl | rfl | rfl <;> omega
theorem zpu (hr:RB w g sp d) (hL:d.size=L) (hab:a<b) (hbL:b<=L) (hl:L<=1000000) :
  Calls PG 140 #[.slice (some ⟨g,0,none⟩) L cap,i64 a,i64 b] w fun e w'=>(∃ (p:Nat) (h:Int),e = .returned (.tuple #[i64 p,.int .i64 h])/\a<=p/\p<b)/\RB w' g sp d/\w.grownBy w' (some g):=by
 refine jf 57 [.slice (some ⟨g,0,none⟩) L cap,i64 a,i64 b] (.s .p (.s .p (.s .p (.s .p (.s .p (.c .p (.c (.s .p (.d (.c .p .p) .p)) .p))))))) Tryz.func140 ?_;obtain⟨n,hn⟩:=nm (b-a);obtain⟨q,hq⟩:=nm (n/4);have hn1:IntKind.i64.wrap (((b:Nat):Int)-((a:Nat):Int))=(n:Int):=(ze (by omega)).trans (by omega);have hq4:IntKind.i64.wrap ((n:Int).tdiv 4)=(q:Int):=by rw [hq];exact zih n 4 (by omega)
 have hqn:4*q<=n:=by omega
 refine⟨(n:Int),hn1,?_⟩;obtain⟨s,hsz⟩:=nm (w.heap.size);have bS:zgY (w.alloc (.cells #[.int .i64 0] 3)) s 0:=by rw [hsz];exact zz w _
 have hbw:Bw w (w.alloc (.cells #[.int .i64 0] 3)):=zba w _;have hgs:s≠g:=fun e=>by have:=RowS.lt hr;omega
 have rS:RB (w.alloc (.cells #[.int .i64 0] 3)) g sp d:=RowS.below hr hbw;subst hsz;refine⟨by decide,(q:Int),hq4,((q*1:Nat):Int),(ze (by omega)).trans (by omega),((a+q*1:Nat):Int),(ze (by omega)).trans (by omega),by decide,(q:Int),hq4,((q*2:Nat):Int),(ze (by omega)).trans (by omega),((a+q*2:Nat):Int),(ze (by omega)).trans (by omega),Unit,fun _=>⟨[(0,.slice (some ⟨g,0,none⟩) L cap),(1,i64 a),(2,i64 b),(8,i64 n),(9,At0 w.heap.size),(10,i64 (a+q*1:Nat)),(11,i64 (a+q*2:Nat)),(12,i64 (a+q*3:Nat))],[]⟩,fun _ X=>w.alloc (.cells #[.int .i64 0] 3)=X,?_,?_⟩
 ·exact⟨by decide,(q:Int),hq4,((q*3:Nat):Int),(ze (by omega)).trans (by omega),((a+q*3:Nat):Int),(ze (by omega)).trans (by omega),(),(cvE rfl rfl),rfl⟩
 rintro _ _ rfl;have keep:∀ Y,(w.alloc (.cells #[.int .i64 0] 3)).grownBy Y (some w.heap.size)->RB Y g sp d/\w.grownBy Y (some g):=fun Y gY =>
  ⟨zd6 rS gY hgs,zf (hbw.trans (zh gY hbw.size (by omega)))⟩
 refine⟨Nat×Int,fun t=>⟨[(0,.slice (some ⟨g,0,none⟩) L cap),(1,i64 a),(2,i64 b),(9,At0 w.heap.size),(11,i64 (t.1:Nat))],[]⟩,fun t X=>(a<=t.1/\t.1<b)/\zgY X w.heap.size t.2/\(w.alloc (.cells #[.int .i64 0] 3)).grownBy X (some w.heap.size),?_,?_⟩
 ·refine biE (fun hc=>?_) fun hc=>?_
  ·have hc:(8:Int)<=(n:Int):=dT hc;refine⟨(Nat×Nat×Nat)×Int,fun t=>⟨[(0,.slice (some ⟨g,0,none⟩) L cap),(1,i64 a),(2,i64 b),(9,At0 w.heap.size),(10,i64 (t.1.1:Nat)),(11,i64 (t.1.2.1:Nat)),(12,i64 (t.1.2.2:Nat))],[]⟩,fun t X=>((a<=t.1.1/\t.1.1<b)/\(a<=t.1.2.1/\t.1.2.1<b)/\(a<=t.1.2.2/\t.1.2.2<b))/\zgY X w.heap.size t.2/\(w.alloc (.cells #[.int .i64 0] 3)).grownBy X (some w.heap.size),?_,?_⟩
   ·refine biE (fun h5=>?_) fun h5=>?_
    ·have h2q:2<=q:=(by omega);obtain⟨⟨m1,m2⟩,⟨m3,m4⟩,m5,m6⟩:=zsC hn hqn h2q hbL;have c1:=zgr (cap:=cap) rS hL bS hgs (a:=a+q*1) m1 m2 hl;refine cmo c1 ?_;rintro e X ⟨⟨x,rfl,hx⟩,⟨u,bX⟩,gX⟩;have c2:=zgr (cap:=cap) (keep X gX).1 hL bX hgs (a:=a+q*2) m3 m4 hl;refine cmo c2 ?_;rintro e Y ⟨⟨y,rfl,hy⟩,⟨u2,bY⟩,gY⟩;have gY':=zd gX gY;have c3:=zgr (cap:=cap) (keep Y gY').1 hL bY hgs (a:=a+q*3) m5 m6 hl;refine cmo c3 ?_;rintro e Z ⟨⟨z,rfl,hz⟩,⟨u3,bZ⟩,gZ⟩;exact⟨((x,y,z),u3),(cvE rfl rfl),⟨zmE hn hqn h2q 1 (.inl rfl) hx,zmE hn hqn h2q 2 (.inr (.inl rfl)) hy,zmE hn hqn h2q 3 (.inr (.inr rfl)) hz⟩,bZ,zd gY' gZ⟩
    ·have h2q:2<=q:=(by omega);exact⟨((a+q*1,a+q*2,a+q*3),0),(cvE rfl rfl),⟨zmE hn hqn h2q 1 (.inl rfl) (.inr (.inl rfl)),zmE hn hqn h2q 2 (.inr (.inl rfl)) (.inr (.inl rfl)),zmE hn hqn h2q 3 (.inr (.inr rfl)) (.inr (.inl rfl))⟩,bS,z5 _ _⟩
   ·rintro⟨⟨x,y,z⟩,u⟩ X ⟨⟨hx,hy,hz⟩,bX,gX⟩;dsimp only at hx hy hz bX gX;refine cmo (zjx (keep X gX).1 hL bX hgs (a:=x) (b:=y) (c:=z) (by omega) (by omega) (by omega) hl) ?_;rintro e Y ⟨⟨m,rfl,hm⟩,⟨u2,bY⟩,gY⟩;refine⟨(m,u2),(cvE rfl rfl),⟨?_,?_⟩,bY,zd gX gY⟩ <;> dsimp only <;> omega
  ·refine⟨(a+q*2,0),(cvE rfl rfl),⟨?_,?_⟩,bS,z5 _ _⟩ <;> dsimp only <;> omega
 rintro⟨p,u⟩ X ⟨hp,bX,gX⟩;dsimp only at hp bX gX;obtain⟨k1,k2⟩:=keep X gX;refine⟨_,zlP bX,biE (fun h=>?_) fun h=>?_⟩
 ·exact⟨⟨p,1,rfl,hp⟩,k1,k2⟩
 ·refine biE (fun h=>?_) fun h=>?_
  ·exact⟨⟨p,2,rfl,hp⟩,k1,k2⟩
  ·exact⟨⟨p,0,rfl,hp⟩,k1,k2⟩
end
theorem zlM {a:Nat} (h:a<2^64):(BitVec.ofInt 64 (a:Int)).toNat=a:=by
 rw [BitVec.ofInt_natCast,BitVec.toNat_ofNat,QG h]
theorem zsk {a b:Nat} (ha:a<2^64) (hb:b<2^64):IntKind.u64.wrap ((BitVec.ofInt IntKind.u64.bits (a:Int)&&&BitVec.ofInt IntKind.u64.bits (b:Int)).toNat:Int)=((a&&&b:Nat):Int):=by
 show IntKind.u64.wrap ((BitVec.ofInt 64 (a:Int)&&&BitVec.ofInt 64 (b:Int)).toNat:Int)=_;rw [Qk,zlM ha,zlM hb];have:a&&&b<=a:=Ub;exact zap (by omega)
theorem exU {x:Int} {K:Int->Prop} (k:∀ r:Nat,r<2^64->K (r:Int)):∃ r,IntKind.u64.wrap x=r/\K r:=by
 have h:0<=IntKind.u64.wrap x/\IntKind.u64.wrap x<18446744073709551616:=by
  unfold IntKind.wrap;simp only [IntKind.bits,IntKind.signed,Um,Kx,Gn];omega
 obtain⟨r,hr⟩:=Int.eq_ofNat_of_zero_le h.1;refine⟨_,rfl,?_⟩;rw [hr];exact k r (by rw [hr] at h;omega)
def zr1 (l:List UInt8):Bool:=(List.range l.length).all fun m=>match l[m]? with
 | some u=>decide (u.toNat<=8)&&(decide (m=0)||decide (2^u.toNat<=2*m))
 | none=>false
theorem znu {l:List UInt8} (hs:zr1 l=true) {n:Nat} {u:UInt8} (h:l[n]?=some u):u.toNat<=8/\(1<=n->2^u.toNat<=2*n):=by
 have:=Qn.1 hs n (Ur.2 (Jt.1 h).1);rw [h] at this;simp only [bAT,QK,dE] at this;exact⟨this.1,fun h1=>this.2.resolve_left (by omega)⟩
theorem znz {s:ByteArray} {n:Nat} {K:UInt8->Prop} (h:n<s.size) (k:∀ u,s.data.toList[n]?=some u->K u):∃ u,s.data.toList[n]?=some u/\K u:=by
 have h:n<s.data.toList.length:=by simpa using h
 exact⟨_,gE h,k _ (gE h)⟩
section
variable {w:Wd} {g cap L a b s:Nat} {v:Int} {sp:List Value} {d:Array UInt8}
theorem zoi {n:Nat} (h:n<65536):Calls PG 147 #[.int .u64 (n:Nat)] w fun e w'=>(∃ m:Nat,e = .returned (i64 m)/\m<=16/\(1<=n->2^m<=2*n))/\w=w':=by
 refine zK 25 [.int .u64 (n:Nat)] Tryz.func147 ?_;refine brN (Uk (by omega)) (brN (Uk (by omega)) (biE (fun hc=>?_) fun hc=>?_))
 ·have hc:(256:Int)<=(n:Int):=dT hc;obtain⟨q,hq⟩:=nm (n/256);have hq1:1<=q/\q<256/\q*256<=n:=by omega
  refine⟨by decide,(q:Int),by
   show (n:Int).fdiv (2^(min (Int.toNat (8:Int)) IntKind.u64.bits))=_;rw [show min (Int.toNat (8:Int)) IntKind.u64.bits=8 from rfl,Jm _ (by decide)];omega,?_⟩
  refine⟨(8:Int),by decide,?_⟩;refine⟨(q:Int),zdU (by omega),q,rfl,zis hq1.2.1 (by kernel_rfl),znz (zis hq1.2.1 (by kernel_rfl)) fun u hu=>?_⟩;obtain⟨t1,t2⟩:=znu (by kernel_rfl) hu;refine⟨(u.toNat:Int),ze (by omega),((8+u.toNat:Nat):Int),(ze (by omega)).trans (by omega),⟨8+u.toNat,rfl,by omega,fun _=>?_⟩,rfl⟩;have:=t2 hq1.1;rw [Nat.pow_add];omega
 ·have hc:¬ (256:Int)<=(n:Int):=dF hc;have hn:n<256:=by omega
  refine⟨(n:Nat),zdU (by omega),n,rfl,zis hn (by kernel_rfl),znz (zis hn (by kernel_rfl)) fun u hu=>?_⟩;obtain⟨t1,t2⟩:=znu (by kernel_rfl) hu;exact⟨(u.toNat:Int),ze (by omega),((0+u.toNat:Nat):Int),(ze (by omega)).trans (by omega),⟨0+u.toNat,rfl,by omega,fun h1=>by rw [UU];exact t2 h1⟩,rfl⟩
theorem zoh {n:Nat} (h:n<65536):Calls PG 103 #[.int .u64 (n:Nat)] w fun e w'=>(∃ m:Nat,e = .returned (i64 m)/\m<=16/\(1<=n->2^m<=2*n))/\w=w':=by
 refine zK 8 [.int .u64 (n:Nat)] Tryz.func103 ?_;refine brF (cmo (zoi h) ?_);rintro e _ ⟨⟨m,rfl,h1,h2⟩,rfl⟩;exact⟨⟨m,rfl,h1,h2⟩,rfl⟩
theorem zmM {n:Nat} (h:n<65536) (h1:1<=n):Calls PG 156 #[i64 n] w fun e w'=>(∃ m:Nat,e = .returned (.int .u64 (m:Nat))/\1<=m/\m<=2*n)/\w=w':=by
 refine zK 7 [i64 n] Tryz.func156 ?_;refine⟨(n:Nat),zap (by omega),cmo (zoh h) ?_⟩;rintro e _ ⟨⟨m,rfl,h2,h3⟩,rfl⟩;have hp:1<=2^m:=Nat.one_le_two_pow;have:=h3 h1;refine⟨by omega,((2^m:Nat):Int),?_,?_⟩
 ·rw [KQ,show min m IntKind.u64.bits=m from Ud (by show m<=64;omega),Int.one_mul];have e:((2:Int)^m)=((2^m:Nat):Int):=by rw [Int.natCast_pow];rfl
  rw [e];exact zap (by omega)
 ·exact⟨⟨2^m,rfl,hp,this⟩,rfl⟩
abbrev zhb (w:Wd) (s:Nat) (v:Nat):Prop:=w.heap[s]?=some (.cells #[.int .u64 (v:Nat)] 234 (0,0))
theorem zck {w:Wd} {s v:Nat} (h:zhb w s v):w.cell? ⟨s,0,none⟩=some (.int .u64 (v:Nat)):=zc (za h) (i:=0) rfl
theorem zrV {v:Nat} (hb:zhb w s v):Calls PG 157 #[At0 s] w fun e w'=>(∃ r:Nat,e = .returned (.int .u64 (r:Nat))/\r<2^64/\zhb w' s r)/\w.grownBy w' (some s):=by
 refine zK 33 [At0 s] Tryz.func157 ?_;have b0:zhb w.drew s v:=hb;refine DrawE.ord [9] [0,1,2,3,4,5,6,7,8,9] (by kernel_rfl) ⟨_,zck b0,_,zck b0,by decide,?_⟩;refine exU fun r1 _=>exU fun r2 _=>qQ zpD rfl b0 (o:=0) (by show 0<1;decide) (v := .int .u64 (r2:Nat)) rfl rfl fun Y fY gY sY=>?_;have b1:zhb Y.drew s r2:=fY;refine DrawE.ord [9] [0,1,2,3,4,5,6,7,8,9] (by kernel_rfl) ⟨_,zck b1,_,zck b1,by decide,_,rfl,?_⟩;refine exU fun r4 _=>qQ zpD rfl b1 (o:=0) (by show 0<1;decide) (v := .int .u64 (r4:Nat)) rfl rfl fun Z fZ gZ sZ=>?_;have b2:zhb Z.drew s r4:=fZ;refine DrawE.ord [9] [0,1,2,3,4,5,6,7,8,9] (by kernel_rfl) ⟨_,zck b2,_,zck b2,by decide,?_⟩;refine exU fun r5 _=>exU fun r6 h6=>qQ zpD rfl b2 (o:=0) (by show 0<1;decide) (v := .int .u64 (r6:Nat)) rfl rfl fun V fV gV sV=>?_;have b3:zhb V s r6:=fV;exact⟨_,zck b3,⟨r6,rfl,h6,b3⟩,zd (zt w s) (zd gY (zd (zt _ s) (zd gZ (zd (zt _ s) gV))))⟩
theorem zql (hr:RB w g sp d) (hL:d.size=L) (hab:a+8<=b) (hbL:b<=L) (hl:L<=60000) :
  Calls PG 139 #[.slice (some ⟨g,0,none⟩) L cap,i64 a,i64 b] w fun e w'=>e = .returned (.tuple #[])/\(∃ d',Go.Sort.PermIn a b d d'/\RB w' g sp d')/\w.grownBy w' (some g):=by
 refine zK 65 [.slice (some ⟨g,0,none⟩) L cap,i64 a,i64 b] Tryz.func139 ?_;obtain⟨n,hn⟩:=nm (b-a);obtain⟨q,hq⟩:=nm (n/4);have hn1:IntKind.i64.wrap (((b:Nat):Int)-((a:Nat):Int))=(n:Int):=(ze (by omega)).trans (by omega);have hq4:IntKind.i64.wrap ((n:Int).tdiv 4)=(q:Int):=by rw [hq];exact zih n 4 (by omega)
 have hq2:2<=q/\4*q<=n:=by omega
 refine⟨(n:Int),hn1,brE (Uv (by omega)) ⟨(n:Nat),zap (by omega),?_⟩⟩;obtain⟨s,hsz⟩:=nm (w.heap.size);have hgs:s≠g:=fun e=>by have:=RowS.lt hr;omega
 have hbw:Bw w (w.alloc (.cells #[.int .u64 0] 234)):=zba w _;refine qQ zpD rfl (zz w (.cells #[.int .u64 0] 234)) (o:=0) (by show 0<1;decide) (v := .int .u64 (n:Nat)) rfl rfl fun X fX gX sX=>?_;rw [<- hsz] at fX gX;have bX:zhb X s n:=fX;have hwX:Bw w X:=hbw.trans (zh gX hbw.size (by omega));have rX:RB X g sp d:=RowS.below hr hwX;refine cmo (zmM (n:=n) (by omega) (by omega)) ?_;rintro e _ ⟨⟨md,rfl,hm1,hm2⟩,rfl⟩;refine⟨by decide,(q:Int),hq4,((q*2:Nat):Int),(ze (by omega)).trans (by omega),((a+q*2:Nat):Int),(ze (by omega)).trans (by omega),((a+q*2-1:Nat):Int),(ze (by omega)).trans (by omega),?_⟩;refine⟨Nat×Nat×Array UInt8,fun t=>⟨[(0,.slice (some ⟨g,0,none⟩) L cap),(1,i64 a),(2,i64 b),(6,i64 n),(7,At0 s),(8,.int .u64 (md:Nat)),(9,i64 (t.1:Nat))],[]⟩,
  fun t Y=>(a<=t.1/\t.1<=a+q*2+2)/\(Go.Sort.PermIn a b d t.2.2/\t.2.2.size=L)/\zhb Y s t.2.1/\RB Y g sp t.2.2/\w.grownBy Y (some g)/\w.heap.size<=s,fun t=>a+q*2+2-t.1,(a+q*2-1,n,d),
  ⟨.cons rfl (.cons rfl (.cons rfl (.cons rfl (.cons (by rw [hsz];rfl) (.cons rfl (.cons rfl .nil)))))),rfl⟩,⟨⟨by dsimp only;omega,by dsimp only;omega⟩,⟨Go.Sort.permIn_refl _ _ _,hL⟩,bX,rX,zf hwX,by omega⟩,?_⟩
 rintro⟨i,v,e⟩ Y ⟨⟨hi1,hi2⟩,⟨hP,hze⟩,bY,rY,gY,hws⟩;dsimp only at hi1 hi2 hP hze bY rY gY;refine⟨by decide,(q:Int),hq4,((q*2:Nat):Int),(ze (by omega)).trans (by omega),((a+q*2:Nat):Int),(ze (by omega)).trans (by omega),((a+q*2+1:Nat):Int),(ze (by omega)).trans (by omega),biE (fun hc=>?_) fun hc=>?_⟩
 ·have hc:(i:Int)<=((a+q*2+1:Nat):Int):=dT hc;refine cmo (zrV bY) ?_;rintro e' Z ⟨⟨r,rfl,hr64,bZ⟩,gZ⟩;have rZ:RB Z g sp e:=zd6 rY gZ hgs;have gwZ:w.grownBy Z (some g):=⟨gZ.os.trans gY.os,gZ.tape.trans gY.tape,gZ.output.trans gY.output,UP gY.size gZ.size,fun k hk hn=>(gZ.block k (nL hk gY.size) (fun h=>by cases h;omega)).trans (gY.block k hk hn)⟩;refine⟨((md-1:Nat):Int),(zap (by omega)).trans (by omega),?_⟩;have hand:r&&&(md-1)<=md-1:=QB;refine⟨((r&&&(md-1):Nat):Int),zsk hr64 (by omega),?_⟩;obtain⟨o,ho⟩:=nm (r&&&(md-1));rw [<- ho] at hand ⊢;refine⟨(o:Int),ze (by omega),?_⟩;have fin:∀ o':Nat,o'<n->∀ V2,RB V2 g sp (swp e i (a+o'))->Z.grownBy V2 (some g)->(a<=i+1/\i+1<=a+q*2+2)/\(Go.Sort.PermIn a b d (swp e i (a+o'))/\(swp e i (a+o')).size=L)/\zhb V2 s r/\RB V2 g sp (swp e i (a+o'))/\w.grownBy V2 (some g)/\w.heap.size<=s:=fun o' ho' V2 q2 g2=>by
   have hp:=Go.Sort.swp_permIn e a b i (a+o') hi1 (by omega) (by omega) (by omega) (by omega);exact⟨⟨by omega,by omega⟩,⟨Go.Sort.permIn_trans _ _ _ a b hP hp,by rw [Go.Sort.size_swp];exact hze⟩,(g2.block s (hlt bZ) (fun h=>by cases h;exact hgs rfl)).trans bZ,q2,zd gwZ g2,hws⟩
  have hx1:i<e.size:=by omega
  refine biE (fun h8=>?_) fun h8=>?_
  ·have h8:(n:Int)<=(o:Int):=dT h8;refine⟨((o-n:Nat):Int),(ze (by omega)).trans (by omega),?_⟩;have hx2:a+(o-n)<e.size:=by omega
   have qd:RB Z.drew g sp e:=rZ;refine DrawE.ord [17,19] [0,1,2,3,4,5,6,7,8,9,10,11,12,13,14,15,16,17,18,19] (by kernel_rfl) ⟨((a+(o-n):Nat):Int),(ze (by omega)).trans (by omega),((a+(o-n):Nat):Int),(ze (by omega)).trans (by omega),a+(o-n),rfl,by omega,?_⟩;refine⟨_,zq qd hx2,i,rfl,by omega,?_⟩;refine⟨_,zq qd hx1,i,rfl,by omega,?_⟩;refine zE k5 rfl qd hx1 e[a+(o-n)]! fun V1 q1 g1=>⟨a+(o-n),rfl,by omega,?_⟩;exact zE k5 rfl q1 (by rw [Array.size_setIfInBounds];exact hx2) e[i]! fun V2 q2 g2=>nxI (by omega) ⟨(i+1,r,swp e i (a+(o-n))),(cvE rfl rfl),fin _ (by omega) V2 q2 (zd (zt _ g) (zd g1 g2)),by dsimp only;omega⟩
  ·have h8:¬ (n:Int)<=(o:Int):=dF h8;have hx2:a+o<e.size:=by omega
   have qd:RB Z.drew g sp e:=rZ;refine DrawE.ord [17,19] [0,1,2,3,4,5,6,7,8,9,10,11,12,13,14,15,16,17,18,19] (by kernel_rfl) ⟨((a+o:Nat):Int),(ze (by omega)).trans (by omega),((a+o:Nat):Int),(ze (by omega)).trans (by omega),a+o,rfl,by omega,?_⟩;refine⟨_,zq qd hx2,i,rfl,by omega,?_⟩;refine⟨_,zq qd hx1,i,rfl,by omega,?_⟩;refine zE k5 rfl qd hx1 e[a+o]! fun V1 q1 g1=>⟨a+o,rfl,by omega,?_⟩;exact zE k5 rfl q1 (by rw [Array.size_setIfInBounds];exact hx2) e[i]! fun V2 q2 g2=>nxI (by omega) ⟨(i+1,r,swp e i (a+o)),(cvE rfl rfl),fin _ (by omega) V2 q2 (zd (zt _ g) (zd g1 g2)),by dsimp only;omega⟩
 ·exact⟨rfl,⟨e,hP,rY⟩,gY⟩
end
end Go.Proofs.YtpalcnbhkigagaaGreatDoor
namespace Go.Proofs.YtpalcnbhkigagaaGreatDoor
open Go.Vc Go.RowKit Go.Sei
open Go.Sort (swp PermIn SortedIn permIn_refl permIn_trans)
section
variable {g cap L:Nat} {sp:List Value}
theorem zq3 (hl:L<=60000):∀ (m a0 b0:Nat) (lim0:Int) (d0:Array UInt8) (w:Wd),b0-a0<=m->RB w g sp d0->d0.size=L->a0<=b0->b0<=L->Go.Sort.Below lt8 a0 b0 d0 ->
  Calls PG 102 #[.slice (some ⟨g,0,none⟩) L cap,i64 a0,i64 b0,.int .i64 lim0] w fun e w'=>e = .returned (.tuple #[])/\∃ d',PermIn a0 b0 d0 d'/\SortedIn lt8 a0 b0 d'/\RB w' g sp d'/\w.grownBy w' (some g):=by
 intro m
 induction m using Nat.strongRecOn with
 | _ m ih =>
 intro a0 b0 lim0 d0 w hm hr hL hab0 hb0 hB0;refine jf 134 [.slice (some ⟨g,0,none⟩) L cap,i64 a0,i64 b0,.int .i64 lim0] (.s .p (.s .p (.b (.l (.b (.c .p (.s .p (.s .p (.c .p (.s .p (.c .p (.c .p (.c .p .p))))))))))))) Tryz.func102 ?_;refine⟨Nat×Nat×Int×Bool×Bool×Array UInt8,fun t=>⟨[(0,.slice (some ⟨g,0,none⟩) L cap),(1,i64 (t.1:Nat)),(2,i64 (t.2.1:Nat)),(3,.int .i64 t.2.2.1),(8,.bool t.2.2.2.1),(9,.bool t.2.2.2.2.1)],[]⟩,
  fun t X=>(t.1<=t.2.1/\t.2.1<=L/\t.2.1-t.1<=m)/\t.2.2.2.2.2.size=L/\Go.Sort.Below lt8 t.1 t.2.1 t.2.2.2.2.2/\(∀ R,PermIn t.1 t.2.1 t.2.2.2.2.2 R->SortedIn lt8 t.1 t.2.1 R->PermIn a0 b0 d0 R/\SortedIn lt8 a0 b0 R)/\RB X g sp t.2.2.2.2.2/\w.grownBy X (some g),fun t=>t.2.1-t.1,(a0,b0,lim0,true,true,d0),
  (cvE rfl rfl),⟨⟨hab0,hb0,hm⟩,hL,hB0,fun R h1 h2=>⟨h1,h2⟩,hr,z5 _ _⟩,?_⟩
 rintro⟨a,b,lim,wb,wp,d⟩ X ⟨⟨hab,hb,hbm⟩,hz,hB,hC,rX,gX⟩;dsimp only at hab hb hbm hz hB hC rX gX;have fin:∀ Z R,PermIn a b d R->SortedIn lt8 a b R->RB Z g sp R->w.grownBy Z (some g)->∃ d',PermIn a0 b0 d0 d'/\SortedIn lt8 a0 b0 d'/\RB Z g sp d'/\w.grownBy Z (some g):=fun Z R h1 h2 q gz=>⟨R,(hC R h1 h2).1,(hC R h1 h2).2,q,gz⟩;refine⟨Unit,fun _=>⟨[(0,.slice (some ⟨g,0,none⟩) L cap),(1,i64 (a:Nat)),(2,i64 (b:Nat)),(3,.int .i64 lim),(8,.bool wb),(9,.bool wp),(10,i64 (b-a:Nat))],[]⟩,fun _ Y=>X=Y,?_,?_⟩
 ·exact⟨((b-a:Nat):Int),(ze (by first | omega | (dsimp only;omega))).trans (by first | omega | (dsimp only;omega)),(),(cvE rfl rfl),rfl⟩
 rintro _ _ rfl;refine biE (fun h12=>?_) fun h12=>?_
 ·have h12:((b-a:Nat):Int)<=12:=dT h12;refine cmo (zrg rX hz hab hb (by omega)) ?_;rintro e Y ⟨rfl,rY,gY⟩;obtain⟨p1,p2⟩:=Go.Sort.insertionSort_holds znv d a b hab (by omega);exact⟨rfl,fin Y _ p1 p2 rY (zd gX gY)⟩
 have h12:¬ ((b-a:Nat):Int)<=12:=dF h12;have hlen:12<b-a:=by omega
 refine biE (fun h0=>?_) fun h0=>?_
 ·refine cmo (zpJ rX hz (by omega) hb (by omega)) ?_;rintro e Y ⟨rfl,rY,gY⟩;obtain⟨p1,p2⟩:=Go.Sort.heapSort_holds znv d a b hab (by omega);exact⟨rfl,fin Y _ p1 p2 rY (zd gX gY)⟩
 clear h0;refine⟨Int×Array UInt8,fun t=>⟨[(0,.slice (some ⟨g,0,none⟩) L cap),(1,i64 (a:Nat)),(2,i64 (b:Nat)),(3,.int .i64 t.1),(8,.bool wb),(9,.bool wp),(10,i64 (b-a:Nat))],[]⟩,fun t Y=>PermIn a b d t.2/\RB Y g sp t.2/\w.grownBy Y (some g),?_,?_⟩
 ·refine biE (fun h=>?_) fun h=>?_
  ·refine cmo (zql rX hz (by omega) hb hl) ?_;rintro e Y ⟨rfl,⟨d1,p1,rY⟩,gY⟩;exact⟨_,rfl,(IntKind.i64.wrap (lim-1),d1),(cvE rfl rfl),p1,rY,zd gX gY⟩
  ·exact⟨(lim,d),(cvE rfl rfl),permIn_refl _ _ _,rX,gX⟩
 rintro⟨lim1,d1⟩ Y ⟨p1,rY,gY⟩;dsimp only at p1 rY gY;have hz1:d1.size=L:=by rw [p1.1];exact hz
 refine cmo (zpu rY hz1 (by omega) hb (by omega)) ?_;rintro e Z ⟨⟨pv,hint,rfl,hp1,hp2⟩,rZ,gZ⟩;have gwZ:=zd gY gZ;refine⟨Nat×Int×Array UInt8,fun t=>⟨[(0,.slice (some ⟨g,0,none⟩) L cap),(1,i64 (a:Nat)),(2,i64 (b:Nat)),(3,.int .i64 lim1),(8,.bool wb),(9,.bool wp),(10,i64 (b-a:Nat)),(11,i64 (t.1:Nat)),(12,.int .i64 t.2.1)],[]⟩,fun t V=>(a<=t.1/\t.1<b)/\PermIn a b d t.2.2/\RB V g sp t.2.2/\w.grownBy V (some g),?_,?_⟩
 ·refine biE (fun h=>?_) fun h=>?_
  ·refine cmo (zqZ rZ hz1 (by omega) hb (by omega)) ?_;rintro e V ⟨rfl,rV,gV⟩;exact⟨((b-1:Nat):Int),(ze (by omega)).trans (by omega),((pv-a:Nat):Int),(ze (by omega)).trans (by omega),((b-1-(pv-a):Nat):Int),(ze (by omega)).trans (by omega),(b-1-(pv-a),1,Go.Sort.reverseRange d1 a b),(cvE rfl rfl),⟨by dsimp only;omega,by dsimp only;omega⟩,permIn_trans _ _ _ a b p1 (Go.Sort.reverseRange_holds d1 a b hab (by omega)),rV,zd gwZ gV⟩
  ·exact⟨(pv,hint,d1),(cvE rfl rfl),⟨hp1,hp2⟩,p1,rZ,gwZ⟩
 clear hp1 hp2 rZ gZ rY gY p1 hz1 gwZ;rintro⟨pv,hint,d2⟩ V ⟨⟨hp1,hp2⟩,p2,rV,gV⟩;dsimp only at hp1 hp2 p2 rV gV;have hz2:d2.size=L:=by rw [p2.1];exact hz
 have hB2:Go.Sort.Below lt8 a b d2:=hB.perm (by omega) p2;refine⟨Array UInt8,fun t=>⟨[(0,.slice (some ⟨g,0,none⟩) L cap),(1,i64 (a:Nat)),(2,i64 (b:Nat)),(3,.int .i64 lim1),(8,.bool wb),(9,.bool wp),(10,i64 (b-a:Nat)),(11,i64 (pv:Nat))],[]⟩,fun t U=>PermIn a b d t/\RB U g sp t/\w.grownBy U (some g),?_,?_⟩
 ·have skipped:∀ (E:Env),Cov E ⟨[(0,.slice (some ⟨g,0,none⟩) L cap),(1,i64 (a:Nat)),(2,i64 (b:Nat)),(3,.int .i64 lim1),(8,.bool wb),(9,.bool wp),(10,i64 (b-a:Nat)),(11,i64 (pv:Nat))],[]⟩->∃ s:Array UInt8,Cov E ⟨[(0,.slice (some ⟨g,0,none⟩) L cap),(1,i64 (a:Nat)),(2,i64 (b:Nat)),(3,.int .i64 lim1),(8,.bool wb),(9,.bool wp),(10,i64 (b-a:Nat)),(11,i64 (pv:Nat))],[]⟩/\PermIn a b d s/\RB V g sp s/\w.grownBy V (some g):=fun E hE=>⟨d2,hE,p2,rV,gV⟩
  cases wb with
  | false =>
   exact Gj (fun h=>by cases h) (fun _=>Gj (fun h=>by cases h) (fun _=>Gj (fun h=>by cases h) (fun _=>skipped _ (cvE rfl rfl))))
  | true =>
   refine Gj (fun _=>?_) (fun h=>by cases h)
   cases wp with
   | false =>
    exact Gj (fun h=>by cases h) (fun _=>Gj (fun h=>by cases h) (fun _=>skipped _ (cvE rfl rfl)))
   | true =>
    refine Gj (fun _=>biE (fun h=>?_) fun h=>?_) (fun h=>by cases h)
    ·refine cmo (zmF rV hz2 (by omega) hb (by omega)) ?_;rintro e U ⟨d3,ok,hpi,rfl,rU,gU⟩;have hpl:=Go.Sort.partialInsertionSort_holds znv d2 a b (by omega) (by omega) hB2;rw [hpi] at hpl;have p3:=permIn_trans _ _ _ a b p2 hpl.1;refine biE (fun hok=>?_) fun hok=>?_
     ·have hok:ok=true:=hok;exact⟨rfl,fin U d3 p3 (hpl.2 hok) rU (zd gV gU)⟩
     ·exact⟨d3,(cvE rfl rfl),p3,rU,zd gV gU⟩
    ·exact skipped _ (cvE rfl rfl)
 clear p2 rV gV hz2 hB2;rintro d3 U ⟨p3,rU,gU⟩;have hz3:d3.size=L:=by rw [p3.1];exact hz
 have hB3:Go.Sort.Below lt8 a b d3:=hB.perm (by omega) p3;have rUd:RB U.drew g sp d3:=rU;have gUd:=zd gU (zt U g);have hxp:pv<d3.size:=by omega
 refine⟨Unit,fun _=>⟨[(0,.slice (some ⟨g,0,none⟩) L cap),(1,i64 (a:Nat)),(2,i64 (b:Nat)),(3,.int .i64 lim1),(8,.bool wb),(9,.bool wp),(10,i64 (b-a:Nat)),(11,i64 (pv:Nat))],[]⟩,fun _ T=>RB T g sp d3/\w.grownBy T (some g),?_,?_⟩
 ·refine DrawE.ord [] [0,1,2,3,4,5,6,7,8,9,10,11,12,13,14] (by kernel_rfl) (biE (fun h1=>?_) fun h1=>?_)
  ·have h1:(0:Int)<(a:Int):=dT h1;have hxa:a-1<d3.size:=by omega
   refine⟨((a-1:Nat):Int),(ze (by omega)).trans (by omega),a-1,rfl,by omega,?_⟩;refine⟨_,zq rUd hxa,pv,rfl,by omega,?_⟩;refine⟨_,zq rUd hxp,cmo jA ?_⟩;rintro e _ ⟨rfl,rfl⟩;refine⟨Ge _ _,biE (fun h2=>?_) fun h2=>?_⟩
   ·have h2:(!lt8 d3[a-1]! d3[pv]!)=true:=h2;have h2:lt8 d3[a-1]! d3[pv]! = false:=(by simpa using h2);refine cmo (znW rUd hz3 hp1 hp2 hb (by omega)) ?_;rintro e T ⟨mid,d4,hpe,rfl,rT,gT⟩;obtain⟨q1,q2,q3,q4,q5⟩:=Go.Sort.round_eq znv (Go.Sort.partitionEqual_holds lt8) (by omega) hp1 hp2 (by omega) hB3 h2 hpe;refine⟨(mid,b,lim1,wb,wp,d4),(cvE rfl rfl),⟨⟨q2,hb,by dsimp only;omega⟩,by dsimp only;omega,q4,fun R r1 r2=>?_,rT,zd gUd gT⟩,by dsimp only;omega⟩;obtain⟨s1,s2⟩:=q5 R r1 r2;exact hC R (permIn_trans _ _ _ a b p3 s1) s2
   ·exact⟨(),(cvE rfl rfl),rUd,gUd⟩
  ·exact Gj (fun h=>by cases h) (fun _=>⟨(),(cvE rfl rfl),rUd,gUd⟩)
 rintro _ T ⟨rT,gT⟩;refine cmo (zq6 rT hz3 hp1 hp2 hb (by omega)) ?_;rintro e S ⟨mid,ap,d4,hpt,rfl,rS,gS⟩;have gwS:=zd gT gS;obtain⟨q1,q2,q3,q4,q5,q6,q7⟩:=Go.Sort.round_part znv (Go.Sort.partition_holds lt8) hp1 hp2 (by omega) hB3 hpt;have hz4:d4.size=L:=by omega
 refine⟨((mid-a:Nat):Int),(ze (by omega)).trans (by omega),((b-mid:Nat):Int),(ze (by omega)).trans (by omega),by decide,(((b-a)/8:Nat):Int),zih (b-a) 8 (by omega),biE (fun hc=>?_) fun hc=>?_⟩
 ·refine cmo (ih (mid-a) (by omega) a mid lim1 d4 S (UZ _) rS hz4 q1 (by omega) q4) ?_;rintro e' Q ⟨rfl,d5,r1,r2,rQ,gQ⟩;obtain⟨hB5,hfin⟩:=q6 d5 r1 r2;refine nxI (by omega) ⟨(mid+1,b,lim1,decide ((((b-a)/8:Nat):Int)<=((mid-a:Nat):Int)),ap,d5),(cvE rfl rfl),⟨⟨by dsimp only;omega,hb,by dsimp only;omega⟩,by show d5.size=L;rw [r1.1];exact hz4,hB5,fun R s1 s2=>?_,rQ,zd gwS gQ⟩,by dsimp only;omega⟩;obtain⟨t1,t2⟩:=hfin R s1 s2;exact hC R (permIn_trans _ _ _ a b p3 t1) t2
 ·refine nxI (by omega) (cmo (ih (b-(mid+1)) (by omega) (mid+1) b lim1 d4 S (UZ _) rS hz4 (by omega) hb q5) ?_);rintro e' Q ⟨rfl,d5,r1,r2,rQ,gQ⟩;obtain⟨hB5,hfin⟩:=q7 d5 r1 r2;refine⟨(a,mid,lim1,decide ((((b-a)/8:Nat):Int)<=((b-mid:Nat):Int)),ap,d5),(cvE rfl rfl),⟨⟨q1,by dsimp only;omega,by dsimp only;omega⟩,by show d5.size=L;rw [r1.1];exact hz4,hB5,fun R s1 s2=>?_,rQ,zd gwS gQ⟩,by dsimp only;omega⟩;obtain⟨t1,t2⟩:=hfin R s1 s2;exact hC R (permIn_trans _ _ _ a b p3 t1) t2
end
end Go.Proofs.YtpalcnbhkigagaaGreatDoor
namespace Go.Proofs.YtpalcnbhkigagaaGreatDoor
open Go.Vc Go.RowKit Go.Sei
section
variable {g cap:Nat} {l:List UInt8} {w:Wd}
theorem zqq {sp:List Value} (hr:RowS zF 5 w g sp l) (hl:l.length<=60000) :
  Calls PG 73 #[.slice (some ⟨g,0,none⟩) l.length cap] w fun e w'=>e = .returned (.tuple #[])/\∃ l',l'.Perm l/\l'.Pairwise (fun x y=>x.toNat<=y.toNat)/\RowS zF 5 w' g sp l'/\w.grownBy w' (some g):=by
 refine zK 11 [.slice (some ⟨g,0,none⟩) l.length cap] Tryz.func73 ?_;refine⟨(l.length:Nat),zap (by omega),cmo (zoh (n:=l.length) (by omega)) ?_⟩;rintro e _ ⟨⟨m,rfl,h1,h2⟩,rfl⟩;have hs:l.toArray.size=l.length:=rfl;refine cmo (zq3 (sp:=sp) (L:=l.length) (cap:=cap) hl l.length 0 l.length m l.toArray w (UZ _) hr hs (Gc _) (UZ _) (.inl rfl)) ?_;rintro e X ⟨rfl,d',hp,hso,rX,gX⟩;refine⟨rfl,d'.toList,?_,?_,rX,gX⟩
 ·have:=hp.2.2;rw [<- hs] at this;have h3:(d'.extract 0 l.toArray.size)=d':=by rw [<- hp.1];simp
  rw [h3] at this;simpa using this
 ·refine List.pairwise_iff_getElem.2 fun i j hi hj hij=>?_;have hi':i<d'.size:=by simpa using hi
  have hj':j<d'.size:=by simpa using hj
  have hz:d'.size=l.length:=hp.1;have h4:=hso i j (Gc _) hij (by omega);rw [getElem!_pos d' i hi',getElem!_pos d' j hj'] at h4;have h4:=dF h4;rw [Array.getElem_toList,Array.getElem_toList];omega
end
theorem zob (v:UInt8):v∈zP:=by
 unfold zP;exact UM.2 ⟨v.toNat,Ur.2 v.toNat_lt,UInt8.ofNat_toNat⟩
theorem ze2 {l:List UInt8} {v:UInt8}:v∈je l↔v∈l:=by
 unfold je;rw [QW];constructor
 ·rintro⟨_,h⟩;obtain⟨x,hx,e⟩:=Qo.1 h;rw [<- dT e];exact hx
 ·exact fun h=>⟨zob v,Qo.2 ⟨v,h,Uv rfl⟩⟩
theorem zqp:zP.Pairwise (fun x y=>x.toNat<y.toNat):=by
 unfold zP;rw [List.pairwise_map];refine List.Pairwise.imp_of_mem ?_ (List.pairwise_lt_range (n:=256));intro a b ha hb h;rw [KL,KL,QG (Ur.1 ha),QG (Ur.1 hb)];exact h
theorem zes (l:List UInt8):(je l).Pairwise (fun x y=>x.toNat<y.toNat):=List.Pairwise.filter _ zqp
theorem ze4:∀ (l:List UInt8) (p:UInt8),(∀ x∈l,p.toNat<=x.toNat)->l.Pairwise (fun x y=>x.toNat<=y.toNat)->(zaE p l).Pairwise (fun x y=>x.toNat<y.toNat)/\(∀ x,x∈zaE p l↔x∈l/\x≠p)/\∀ x∈zaE p l,p.toNat<x.toNat
 | [],p,_,_=>⟨.nil,fun x=>by simp [zaE],fun x h=>by cases h⟩
 | y::r,p,hp,hs=>by
  rw [List.pairwise_cons] at hs;by_cases h:y=p
  ·subst h;obtain⟨a,b,c⟩:=ze4 r y hs.1 hs.2;have e:zaE y (y::r)=zaE y r:=by show (if y=y then zaE y r else y::zaE y r)=_;rw [Gs rfl]
   rw [e];refine⟨a,fun x=>(b x).trans ⟨fun h=>⟨JZ _ h.1,h.2⟩,fun h=>⟨(UF.1 h.1).resolve_left h.2,h.2⟩⟩,c⟩
  ·obtain⟨a,b,c⟩:=ze4 r y hs.1 hs.2;have e:zaE p (y::r)=y::zaE y r:=by show (if y=p then zaE p r else y::zaE y r)=_;rw [Gr h]
   rw [e];have hpy:p.toNat<y.toNat:=by
    have h1:=hp y (KD ..);have h2:y.toNat≠p.toNat:=fun e=>h (Uj.1 e);omega
   refine⟨List.pairwise_cons.2 ⟨c,a⟩,fun x=>?_,fun x hx=>?_⟩
   ·rw [UF,b x,UF];constructor
    ·rintro (rfl | ⟨h1,h2⟩)
     ·exact⟨.inl rfl,h⟩
     ·refine⟨.inr h1,fun e=>?_⟩;subst e;have:=hs.1 x h1;omega
    ·rintro⟨rfl | h1,h2⟩
     ·exact .inl rfl
     ·by_cases e:x=y
      ·exact .inl e
      ·exact .inr ⟨h1,e⟩
   ·rcases UF.1 hx with rfl | hx
    ·exact hpy
    ·have:=c x hx;omega
theorem zoE {l:List UInt8} (hs:l.Pairwise (fun x y=>x.toNat<=y.toNat)):(ded l).Pairwise (fun x y=>x.toNat<y.toNat)/\∀ x,x∈ded l↔x∈l:=by
 cases l with
 | nil=>exact⟨.nil,fun x=>Iff.rfl⟩
 | cons y r =>
  rw [List.pairwise_cons] at hs;obtain⟨a,b,c⟩:=ze4 r y hs.1 hs.2;refine⟨List.pairwise_cons.2 ⟨c,a⟩,fun x=>?_⟩;show x∈y::zaE y r↔_;rw [UF,b x,UF];constructor
  ·rintro (h | h)
   ·exact .inl h
   ·exact .inr h.1
  ·rintro (h | h)
   ·exact .inl h
   ·by_cases e:x=y
    ·exact .inl e
    ·exact .inr ⟨h,e⟩
theorem zk8:∀ {a b:List UInt8},a.Pairwise (fun x y=>x.toNat<y.toNat)->b.Pairwise (fun x y=>x.toNat<y.toNat)->(∀ x,x∈a↔x∈b)->a=b
 | [],[],_,_,_=>rfl
 | [],y::b,_,_,h=>Gt ((h y).2 (KD ..)) (by simp)
 | x::a,[],_,_,h=>Gt ((h x).1 (KD ..)) (by simp)
 | x::a,y::b,ha,hb,h=>by
  rw [List.pairwise_cons] at ha hb;have e:x=y:=by
   rcases UF.1 ((h x).1 (KD ..)) with e | h1
   ·exact e
   ·rcases UF.1 ((h y).2 (KD ..)) with e | h2
    ·exact e.symm
    ·have:=hb.1 x h1;have:=ha.1 y h2;omega
  subst e;rw [zk8 ha.2 hb.2 fun z=>?_];have hz:=h z;rw [UF,UF] at hz;constructor
  ·intro hza;rcases hz.1 (.inr hza) with e | h2
   ·subst e;have:=ha.1 z hza;omega
   ·exact h2
  ·intro hzb;rcases hz.2 (.inr hzb) with e | h2
   ·subst e;have:=hb.1 z hzb;omega
   ·exact h2
theorem ziC {l:List UInt8} (h:l.Pairwise (fun x y=>x.toNat<y.toNat)):je l=l:=zk8 (zes l) h fun _=>ze2
theorem zdg (l:List UInt8):(je l).length<=256:=by
 refine UP (JN ..) ?_;unfold zP;rw [QR,KZ];exact UZ _
theorem zcV {p:OA} {cap:Nat} {l:List UInt8} {w:Wd} (hl:SlR zF w p l) (h1:1<=l.length) (hm:l.length<=60000) :
  Calls PG 41 #[.slice p l.length cap] w fun e w'=>(∃ q c,e = .returned (.slice q (je l).length c)/\OwnS zF 5 w.heap.size w' q c (je l))/\Bw w w':=by
 refine zK 9 [.slice p l.length cap] Tryz.func41 ?_;refine cmo (zkc hl (by omega) (fun e=>by subst e;have:=hl.none;subst this;simp at h1)) ?_;rintro e X ⟨⟨q,c,rfl,ho⟩,hbX⟩;rcases ho.inv with ⟨_,_,h0⟩ | ⟨g,cur,rfl,hB,hcur,hlc,hcm,hcs,hct⟩
 ·rw [h0] at h1;simp at h1
 have hcs:cur.size=c:=by rw [hcs];exact Ga _
 obtain⟨sp,hsp⟩:=nm (cur.toList.drop l.length);have hct:cur.toList.take l.length=l.flatMap zF.enc:=by rw [<- hct];congr 1;exact (Ga _).symm
 have hR:RowS zF 5 X g sp l:=by
  unfold RowS;rw [hcur,<- hct,hsp,JR]
 have hspl:l.length+sp.length=c:=by
  have h1:cur.toList.length=c:=by rw [Array.length_toList];exact hcs
  rw [hsp,Qx,h1];omega
 refine cmo (zqq hR hm) ?_;rintro e Y ⟨rfl,l',hp,hso,rY,gY⟩;have hlen:l'.length=l.length:=hp.length_eq;have oY:OwnS zF 5 w.heap.size Y (some ⟨g,0,none⟩) c l':=by
  unfold OwnS World.ownsRow;refine⟨by rw [qo],.inr ⟨g,c,_,rfl,hB,rY,by omega,hcm,?_,?_⟩⟩
  ·show (l'.flatMap zF.enc++sp).length=c*1;rw [lap,qo];show l'.length*1+_=_;omega
  ·exact Ua (qo l')
 have c3:=zld oY (by omega);rw [hlen] at c3;refine cmo c3 ?_;rintro e Z ⟨rfl,oZ,gZ⟩;have hwX:=hbX.size;obtain⟨d1,d2⟩:=zoE hso;have hd:ded l'=je l:=zk8 d1 (zes l) fun x=>(d2 x).trans ((hp.mem_iff).trans ze2.symm);rw [hd] at oZ ⊢;exact⟨⟨_,_,rfl,oZ⟩,(hbX.trans (zh gY hwX hB)).trans (zh gZ (UP hwX gY.size) hB)⟩
end Go.Proofs.YtpalcnbhkigagaaGreatDoor
