/- Contracts of functions, and plain facts, for the law that the last text of this claim proves. -/
import Derived.Test.YtnadlhpkpnfmbaaGreatDoorD4
import Derived.Test.YtnadlhpkpnfmbaaGreatDoorD1
import Derived.Test.YtnadlhpkpnfmbaaGreatDoorD2
import Derived.MapKept
import Derived.Laws.StructEq
set_option linter.unusedSimpArgs false
set_option linter.unusedVariables false
namespace Go.Proofs.YtnadlhpkpnfmbaaGreatDoor
open Go.Vc Go.RowKit Go.Sei
section
variable {b c:Nat} {x:ExD} {q:OA} {w:Wd}
theorem zeU {k:Nat}:x.ev.getD k ev0=evA x k:=rfl
theorem zod (fx:ExH w b x q c) (hv:ExV w x q) (hn:x.rf.n=x.ev.length) (hok:okR x.rf=true) (hT:Tz64M w):CB 42 #[At0 b] w (.bool (zcr x)):=by
 refine qa 72 [At0 b] (.s .p (.c .p .p)) Tryz.func42 ?_;obtain⟨from_,hfr⟩:∃ f,f=qE x.rf:=⟨_,rfl⟩;have hn20:=hv.n;refine⟨Nat,fun F=>⟨[(0,At0 b),(3,At0 F)],[]⟩,fun F X=>zN X F from_/\zG from_.to/\w.heap.size<=F/\Bw w X,?_,?_⟩
 ·refine⟨zd x.rf,ze _,?_,hlt fx,?_⟩
  ·have h:=zV (n:=50) (m:=49) (za fx);obtain⟨A,T,hA,hE⟩:=zqJ x q c;have e:=hE x.rf;have e2:(exC x q c).drop 50=zd x.rf++T:=by
    show (exC { x with rf:=x.rf } q c).drop 50=_;rw [e,<- hA,Uo]
   have e3:((exC x q c).toArray.toList.drop 50).take 49=zd x.rf:=by
    show ((exC x q c).drop 50).take 49=_;rw [e2,Jg (by rw [ze];decide),JE (by rw [ze];decide)]
   rw [e3] at h;exact h
  refine cmo (zgj hv.rf hT) ?_;rintro e Y ⟨rfl,hbY,hwr⟩;refine zn (X:=Y) (v := .agg (zd (qE x.rf)).toArray) k30 (ze _) (by kernel_rfl) (zD _) fun Z hbZ fZ sZ=>?_;rw [<- hfr] at fZ hwr;exact⟨Y.heap.size,(cvE rfl rfl),fZ,hwr,hbY.size,(zst hbY hbZ)⟩
 rintro F X ⟨fF,hwr,hF,hbX⟩;have bits:∀ i j,(from_.to i).testBit j=true->j<x.ev.length:=fun i j h=>by
  rw [hfr,zlp hok,bAT,dE,hn] at h;omega
 refine⟨_,zc (za (zb hbX fx)) (i:=0) rfl,Nat,fun k=>⟨[(0,At0 b),(3,At0 F),(18,.slice q x.ev.length c),(19,i64 x.ev.length),(20,i64 (k:Nat))],[]⟩,fun k X=>k<=x.ev.length/\(List.range k).all (fun i=>zdL x (from_.to i) (evA x i))=true/\zN X F from_/\Bw w X,fun k=>x.ev.length-k,0,(cvE rfl rfl),⟨Gg _,rfl,fF,hbX⟩,?_⟩;have hall:zcr x=(List.range x.ev.length).all fun i=>zdL x (from_.to i) (evA x i):=by rw [hfr];rfl
 clear fF hbX;rintro k X ⟨hk,hgo,fF,hbX⟩;dsimp only;have hXs:=hbX.size;refine biE (fun hc=>?_) fun hc=>?_
 ·have hc:(k:Int)<(x.ev.length:Int):=dT hc;have hkl:k<x.ev.length:=by omega
  obtain⟨bq,oq,hqe,hb,hat⟩:=zcd (hv.ev.below hbX) hkl;rw [zeU] at hat;obtain⟨e,he⟩:=nm (evA x k);obtain⟨s,hs⟩:=nm (from_.to k);rw [<- he] at hat;have hs64:s<2^64:=by rw [hs];exact hwr k (by omega)
  have eq0:some (Value.slice q x.ev.length c)=some (Value.slice (some ⟨bq,oq,none⟩) x.ev.length c):=by rw [hqe]
  subst hqe;refine⟨k,rfl,hkl,evE.enc e,rfl,hat,hb,zn (X:=X) (v := .agg (evE.enc e).toArray) zd3 rfl rfl (Qj.2 fun u hu=>evE.one e u hu) fun Y hbY fY sY=>?_⟩;have fY:Y.heap[X.heap.size]?=some (.cells (evE.enc e).toArray 158 (0,0)):=fY;have hbY2:=hbX.trans (hbY.mono hXs);have no:∀ {Z:Wd},Bw w Z->zdL x s e=false->(Ending.returned (.bool false)=Ending.returned (.bool (zcr x))/\Bw w Z):=fun {Z} hb h=>⟨rb (by
   rw [hall];symm;exact zo3 hkl (by rw [<- hs,<- he];exact h)),hb⟩
  have yes:∀ {Z:Wd},zN Z F from_->Bw w Z->zdL x s e=true->(k+1<=x.ev.length/\(List.range (k+1)).all (fun i=>zdL x (from_.to i) (evA x i))=true/\zN Z F from_/\Bw w Z):=fun {Z} f hb h=>⟨hkl,zq9 hgo (by rw [<- hs,<- he];exact h),f,hb⟩;refine⟨k,rfl,by omega,?_⟩;refine⟨s64 s,by rw [hs];exact zag (zb hbY fF) (by omega),u8 e.k,zc (za fY) (i:=1) rfl,biE (fun h=>?_) fun h=>?_⟩
  ·have h:¬ e.k=1:=by
    have h:(!decide ((e.k.toNat:Int)=((1:UInt8).toNat:Int)))=true:=h;intro e2;rw [e2] at h;simp at h
   have hone:zdL x s e=decide (s=0):=Gy h;refine biE (fun h2=>?_) fun h2=>?_
   ·have h2:¬ s=0:=by
     have h2:(!decide ((s:Int)=0))=true:=h2;intro e2;rw [e2] at h2
     cases h2
    exact no hbY2 (by rw [hone];exact Uj h2)
   ·have h2:s=0:=by
     have h2:(!decide ((s:Int)=0))=false:=h2;have h2:(s:Int)=0:=(by simpa using h2);omega
    exact nxI (by omega) ⟨k+1,(cvE rfl rfl),yes (zb hbY fF) hbY2 (by rw [hone];exact Uu h2),zdc (by omega)⟩
  have h:e.k=1:=by
   have h:(!decide ((e.k.toNat:Int)=((1:UInt8).toNat:Int)))=false:=h;exact qG.1 (by simpa using h)
  refine cmo (zbc hs64 (hT.below hbY2)) ?_;rintro e2 Z ⟨rfl,hbZ⟩;have hYs:=hbY2.size;have hbZ2:=hbY2.trans (hbZ.mono hYs);have fZ:=zb hbZ fY;have fFZ:=zb hbZ (zb hbY fF);by_cases hs0:s=0
  ·have e1:(els s).isEmpty=true:=by rw [hs0];rfl
   rw [e1];refine brT (brT (no hbZ2 ?_));unfold zdL;rw [Gz h,Gz hs0]
  obtain⟨hd,hem⟩:=zcc hs0 hs64;rw [hd,hem];have hmem:=znv hs0 hs64;have hbit:s.testBit (ctz s)=true:=(zbr.1 hmem).2;have hwl:ctz s<x.ev.length:=bits k _ (by rw [<- hs];exact hbit);refine brF ⟨by omega,((2^ctz s:Nat):Int),jU (e:=ctz s) (by omega),biE (fun h2=>?_) fun h2=>?_⟩
  ·have h2:¬ s=2^ctz s:=by
    have h2:(!decide ((s:Int)=((2^ctz s:Nat):Int)))=true:=h2;intro e2;rw [<- e2] at h2;simp at h2
   refine no hbZ2 ?_;unfold zdL;rw [Gz h,Gy hs0,Gy h2]
  have h2:s=2^ctz s:=by
   have h2:(!decide ((s:Int)=((2^ctz s:Nat):Int)))=false:=h2;have h2:(s:Int)=((2^ctz s:Nat):Int):=by simpa using h2
   exact UC h2
  obtain⟨t,ht⟩:=nm (ctz s);rw [<- ht] at hwl h2 ⊢;obtain⟨bq2,oq2,hqe2,hb2,hat2⟩:=zcd (hv.ev.below hbZ2) hwl;rw [zeU] at hat2;obtain⟨f,hf⟩:=nm (evA x t);rw [<- hf] at hat2;have hone:zdL x s e=(decide (f.k=2)&&(decide (f.l=e.l)&&decide (f.v=e.v))):=by
   unfold zdL;rw [Gz h,Gy hs0,<- ht,Gz h2,<- hf]
  refine⟨_,zc (za (zb hbZ2 fx)) (i:=0) rfl,t,rfl,hwl,?_⟩;refine⟨evE.enc f,rfl,by
   simp only [KZ,Uw,Gr] at hqe2;rw [hqe2.1,hqe2.2];exact hat2,by
   simp only [KZ,Uw,Gr] at hqe2;rw [hqe2.1];exact hb2,?_⟩
  refine zn (X:=Z) (v := .agg (evE.enc f).toArray) zd3 rfl rfl (Qj.2 fun u hu=>evE.one f u hu) fun V hbV fV sV=>?_;have fV:V.heap[Z.heap.size]?=some (.cells (evE.enc f).toArray 158 (0,0)):=fV;have hbV2:=zst hbZ2 hbV;have fe:=zb hbV fZ;have fFV:=zb hbV fFZ;have n8:∀ {a d:UInt8},(!decide ((a.toNat:Int)=(d.toNat:Int)))=true->¬ a=d:=fun {a d} h e2=>by
   rw [e2] at h;simp at h
  have y8:∀ {a d:UInt8},(!decide ((a.toNat:Int)=(d.toNat:Int)))=false->a=d:=fun {a d} h=>qG.1 (by simpa using h);refine⟨u8 f.k,zc (za fV) (i:=1) rfl,biE (fun h3=>?_) fun h3=>?_⟩
  ·have h3:¬ f.k=2:=n8 (d:=2) h3;exact brT (brT (no hbV2 (by rw [hone,Uj h3];rfl)))
  have h3:f.k=2:=y8 (d:=2) h3;refine⟨u8 f.l,zc (za fV) (i:=2) rfl,u8 e.l,zc (za fe) (i:=2) rfl,biE (fun h4=>?_) fun h4=>?_⟩
  ·have h4:¬ f.l=e.l:=n8 h4;exact brT (no hbV2 (by rw [hone,Uj h4,Ul,Uk]))
  have h4:f.l=e.l:=y8 h4;refine⟨u8 f.v,zc (za fV) (i:=3) rfl,u8 e.v,zc (za fe) (i:=3) rfl,biE (fun h5=>?_) fun h5=>?_⟩
  ·have h5:¬ f.v=e.v:=n8 h5;exact no hbV2 (by rw [hone,Uj h5,Uk,Uk])
  have h5:f.v=e.v:=y8 h5;exact nxI (by omega) ⟨k+1,(cvE rfl rfl),yes fFV hbV2 (by rw [hone,Uu h3,Uu h4,Uu h5];rfl),zdc (by omega)⟩
 ·have hc:¬ (k:Int)<(x.ev.length:Int):=dF hc;obtain rfl:k=x.ev.length:=by omega
  exact⟨rb (by rw [hall];exact hgo.symm),hbX⟩
end
theorem zvr {bx n:Nat} {w:Wd} {i:Nat} (f:w.heap[bx]?=some (.cells #[i64 (n:Nat)] 3 (0,0))) (hn:n<=1000):Calls PG 132 #[i64 (i:Nat),At0 bx] w fun e w'=>e = .returned (.bool true)/\w'.heap[bx]?=some (.cells #[i64 (n+1:Nat)] 3 (0,0))/\w.grownBy w' (some bx):=by
 refine zJ 6 [i64 (i:Nat),At0 bx] Tryz.func132 ?_;exact⟨_,zc (za f) (i:=0) rfl,nxI (by omega) (zy k3 f (o:=0) (v:=i64 (n+1:Nat)) rfl rfl (by show 0<1;decide) rfl fun w' f' g' s'=>⟨rfl,f',g'⟩)⟩
theorem zk5 {bs bx s:Nat} {w:Wd} (fs:w.heap[bs]?=some (.cells #[s64 s] 27 (0,0))) (fx:w.heap[bx]?=some (.cells #[i64 (0:Nat)] 3 (0,0))) (hs:s<2^64) (hT:Tz64M w) (hbx:4≠bx) :
  Calls PG 151 #[.func (.func 132) #[] #[At0 bx],At0 bs] w fun e w'=>(∃ v,e = .returned v)/\w'.heap[bx]?=some (.cells #[i64 (zcW s:Nat)] 3 (0,0))/\w.grownBy w' (some bx):=by
 refine zJ 16 [.func (.func 132) #[] #[At0 bx],At0 bs] Tryz.func151 ?_;refine⟨_,zc (za fs) (i:=0) rfl,Nat×Nat,fun q=>⟨[(0,.func (.func 132) #[] #[At0 bx]),(3,s64 q.2)],[]⟩,fun q X=>X.heap[bx]?=some (.cells #[i64 (q.1:Nat)] 3 (0,0))/\q.1+zcW q.2=zcW s/\q.2<2^64/\w.grownBy X (some bx),fun q=>q.2,(0,s),(cvE rfl rfl),⟨fx,UY _,hs,j5 _ _⟩,?_⟩;rintro⟨n,r⟩ X ⟨f,hn,hr,gX⟩;dsimp only at f hn hr ⊢;have hls:=zfF s;refine biE (fun hc=>?_) fun hc=>?_
 ·have hc:(!decide ((r:Int)=0))=true:=hc;have hc:¬ (r:Int)=0:=by simpa using hc
  have hr0:r≠0:=by omega
  obtain⟨e1,e2,_,_⟩:=jO hr0 hr;have hl:zcW r=zcW (qY r)+1:=by unfold zcW;rw [e1];rfl
  have hTX:Tz64M X:=zas hT (gX.block _ (za4 hT) (by simpa using hbx));refine cmo (zpi hTX hr0 hr) ?_;rintro e _ ⟨rfl,rfl⟩;have hn64:n<=1000:=by unfold zcW at hn;omega
  refine cmo (zvr f hn64) ?_;rintro e V ⟨rfl,fV,gV⟩;exact brF ⟨((r-1:Nat):Int),(zeZ (a:=(r:Int)-1) (by omega)).trans (by omega),((qY r:Nat):Int),jV (a:=r) (b:=r-1) hr (by omega),(n+1,qY r),(cvE rfl rfl),⟨fV,by show n+1+zcW (qY r)=_;omega,by show qY r<_;omega,zh gX gV⟩,e2⟩
 ·have hc:(!decide ((r:Int)=0))=false:=hc;have hc:(r:Int)=0:=by simpa using hc
  obtain rfl:r=0:=by omega
  have h0:zcW 0=0:=rfl;rw [h0,UR] at hn;exact⟨⟨_,rfl⟩,by rw [<- hn];exact f,gX⟩
theorem ztJ {s:Nat} {w:Wd} (hs:s<2^64) (hT:Tz64M w):CB 83 #[s64 s] w (i64 (zcW s:Nat)):=by
 refine qa 11 [s64 s] (.s .p (.c .p .p)) Tryz.func83 ?_;obtain⟨L,hL⟩:=nm (w.heap.size);refine⟨Unit,fun _=>⟨[(0,s64 s),(3,At0 L)],[]⟩,fun _ Y=>Y.heap[L]?=some (.cells #[i64 (0:Nat)] 3 (0,0))/\Y.heap.size=L+1/\Bw w Y,?_,?_⟩
 ·refine zn (X:=w) (v:=i64 0) k3 rfl rfl rfl fun Y hbY fY sY=>?_;have fY:Y.heap[w.heap.size]?=some (.cells #[i64 (0:Nat)] 3 (0,0)):=fY;exact⟨(),⟨.cons rfl (.cons (by rw [hL];rfl) .nil),rfl⟩,by rw [hL];exact fY,by rw [hL];exact sY,hbY⟩
 rintro _ Y ⟨fY,sY,hbY⟩;refine cmo zhO ?_;rintro e _ ⟨rfl,rfl⟩;have hb2:Bw Y (Y.alloc (.cells #[s64 s] 27)):=zba _ _;have htl:=za4 hT;refine cmo (zk5 (zz Y _) (zb hb2 fY) hs ((hT.below hbY).below hb2) (by omega)) ?_;rintro e Z ⟨⟨v,rfl⟩,fZ,gZ⟩;exact⟨_,zc (za fZ) (i:=0) rfl,rfl,((zst hbY hb2)).trans (zq gZ (by have:=hbY.size;have:=hb2.size;omega) (by omega))⟩
def zjF (x y:Nat):Int:=if x<y then -1 else if y<x then 1 else 0
theorem zp3 {x:Nat} {w:Wd}:Calls PG 131 #[i64 (x:Nat)] w fun e w'=>e = .returned (.bool false)/\w=w':=by
 refine zJ 6 [i64 (x:Nat)] Tryz.func131 ?_;exact⟨rb (by simp),rfl⟩
theorem zmH {x y:Nat} {w:Wd}:Calls PG 82 #[i64 (x:Nat),i64 (y:Nat)] w fun e w'=>e = .returned (i64 (zjF x y))/\w=w':=by
 refine zJ 20 [i64 (x:Nat),i64 (y:Nat)] Tryz.func82 ?_;refine cmo zp3 ?_;rintro e _ ⟨rfl,rfl⟩;refine cmo zp3 ?_;rintro e _ ⟨rfl,rfl⟩;refine brF (brF (biE (fun h=>?_) fun h=>?_))
 ·have h:(x:Int)<y:=dT h;exact⟨ri (by unfold zjF;rw [Gz (by omega)]),rfl⟩
 have h:¬ (x:Int)<y:=dF h;refine biE (fun h2=>?_) fun h2=>?_
 ·have h2:(y:Int)<x:=dT h2;exact⟨ri (by unfold zjF;rw [Gy (by omega),Gz (by omega)]),rfl⟩
 ·have h2:¬ (y:Int)<x:=dF h2;exact⟨ri (by unfold zjF;rw [Gy (by omega),Gy (by omega)]),rfl⟩
section
variable {b c L:Nat} {x:ExD} {q:OA} {w:Wd}
theorem zqU {X:Wd} (fx:ExH X b x q c) {i:Nat} (hi:i<48):X.cell? ⟨b,0+99+1+i*1,none⟩=some (s64 (x.co.to i)):=by
 obtain⟨A,T,hA,hE⟩:=zmm x q c;have hR:RelAt X b 99 37 A T x.co:=⟨hA,by rw [<- hE];exact fx⟩;exact hR.cell hi
theorem zuW {u v:Nat} (fx:ExH w b x q c) (fL:w.heap[L]?=some (.cells #[At0 b] 86 (0,0))) (hco:zG x.co.to) (hu:u<48) (hv:v<48) (hT:Tz64M w) :
  CB 81 #[i64 (u:Nat),i64 (v:Nat),At0 L] w (i64 (zjF (zcW (x.co.to v)) (zcW (x.co.to u)))):=by
 refine zJ 23 [i64 (u:Nat),i64 (v:Nat),At0 L] Tryz.func81 ?_;refine DrawE.ord [] [0,1,2,3,4,5,6,8,9,10,11,12,13,14,7,15,16,17] (by kernel_rfl) ?_;have hd:Bw w w.drew:=(Gj _ _).drew;refine⟨_,zc (za (hdr fL)) (i:=0) rfl,v,rfl,hv,_,zqU (hdr fx) hv,_,zc (za (hdr fL)) (i:=0) rfl,u,rfl,hu,_,zqU (hdr fx) hu,cmo (ztJ (hco v hv) (hT.below hd)) ?_⟩;rintro e X ⟨rfl,hbX⟩;refine⟨hbX,cmo (ztJ (hco u hu) ((hT.below hd).below hbX)) ?_⟩;rintro e Y ⟨rfl,hbY⟩;refine⟨hbY,cmo zmH ?_⟩;rintro e _ ⟨rfl,rfl⟩;exact⟨Gj _ _,rfl,(hd.trans hbX).trans (hbY.mono hbX.size)⟩
end
theorem zhC {key:Nat->Nat} {x:Nat}:∀ (B A:List Nat),(∀ y∈B,key y<key x)->zap key (B++A) x=B++zap key A x
 | [],A,_=>rfl
 | y::B,A,h=>by
  show (if key y<key x then y::zap key (B++A) x else x::y::(B++A))=_;rw [Gz (h y Kz),zhC B A fun z hz=>h z (JW _ hz)];rfl
theorem zhB {key:Nat->Nat} {x:Nat}:∀ r:List Nat,(zap key r x).length=r.length+1
 | []=>rfl
 | y::r=>by
  unfold zap
  split
  ·show (zap key r x).length+1=_;rw [zhB r];rfl
  ·rfl
theorem zhA {key:Nat->Nat} {x a:Nat}:∀ r:List Nat,a∈zap key r x↔a=x\/a∈r
 | []=>by simp [zap]
 | y::r=>by
  unfold zap
  split
  ·rw [UG,zhA r,UG];constructor
   ·rintro (h | h | h) <;> simp [h]
   ·rintro (h | h | h) <;> simp [h]
  ·simp
def ze4 (key:Nat->Nat) (l:List Nat):List Nat:=l.foldl (fun acc x=>zap key acc x) []
theorem zlI (key:Nat->Nat) (l:List Nat) (x:Nat):ze4 key (l++[x])=zap key (ze4 key l) x:=by
 unfold ze4;rw [KT];rfl
theorem zcJ {key:Nat->Nat} {a:Nat}:∀ (l acc:List Nat),a∈l.foldl (fun acc x=>zap key acc x) acc↔a∈l\/a∈acc
 | [],acc=>by simp
 | x::l,acc=>by
  rw [QO,zcJ l,zhA,UG];constructor
  ·rintro (h | h | h) <;> simp [h]
  ·rintro ((h | h) | h) <;> simp [h]
theorem zcK {key:Nat->Nat}:∀ (l acc:List Nat),(l.foldl (fun acc x=>zap key acc x) acc).length=l.length+acc.length
 | [],acc=>by simp
 | x::l,acc=>by
  rw [QO,zcK l,zhB,Qs];omega
theorem znY {key:Nat->Nat} {l:List Nat} {a:Nat}:a∈zev key l↔a∈l:=by
 unfold zev;rw [List.mem_reverse,zcJ];simp
theorem znZ {key:Nat->Nat} (l:List Nat):(zev key l).length=l.length:=by
 unfold zev;rw [Ki,zcK];rfl
section
variable {b c L g cap:Nat} {x:ExD} {q:OA} {w:Wd} {l:List Nat}
abbrev zdg (x:ExD):Nat->Nat:=fun i=>zcW (x.co.to i)
theorem zhz {B:Nat} (ho:OwnS zE 3 B w (some ⟨g,0,none⟩) cap l) (fx:ExH w b x q c) (fL:w.heap[L]?=some (.cells #[At0 b] 86 (0,0))) (hT:Tz64M w) (htg:4≠g) (hco:zG x.co.to) (h48:∀ a∈l,a<48) (hn:l.length<=20) (hn1:1<=l.length) :
  Calls PG 177 #[.slice (some ⟨g,0,none⟩) l.length cap,i64 0,i64 l.length,.func (.func 81) #[] #[At0 L]] w fun e w'=>e = .returned (.tuple #[])/\OwnS zE 3 B w' (some ⟨g,0,none⟩) cap (zev (zdg x) l)/\w.grownBy w' (some g):=by
 refine qa 53 [.slice (some ⟨g,0,none⟩) l.length cap,i64 0,i64 l.length,.func (.func 81) #[] #[At0 L]] (.c .p .p) Tryz.func177 ?_;obtain⟨E0,hE0⟩:∃ E0:List (Nat×Value),E0=[(0,.slice (some ⟨g,0,none⟩) l.length cap),(1,i64 0),(2,i64 l.length),(3,.func (.func 81) #[] #[At0 L])]:=⟨_,rfl⟩;have hbg:b≠g:=fun e=>by
  obtain⟨_,_,cur,hc⟩:=zA ho rfl;have hc:w.heap[g]?=_:=hc;rw [<- e,fx] at hc;simp at hc
 have hLg:L≠g:=fun e=>by
  obtain⟨_,_,cur,hc⟩:=zA ho rfl;have hc:w.heap[g]?=_:=hc;rw [<- e,fL] at hc;simp at hc
 refine⟨Unit,fun _=>⟨[(0,.slice (some ⟨g,0,none⟩) l.length cap),(1,i64 0),(2,i64 l.length),(3,.func (.func 81) #[] #[At0 L]),(8,i64 1)],[]⟩,fun _ X=>w=X,?_,?_⟩
 ·exact⟨1,zk (by omega),(),(cvE rfl rfl),rfl⟩
 rintro _ _ rfl;have hl0:l.take 1=(ze4 (zdg x) (l.take 1)).reverse:=by
  cases l with
  | nil=>simp at hn1
  | cons a l=>rfl
 refine⟨Nat,fun i=>⟨[(0,.slice (some ⟨g,0,none⟩) l.length cap),(1,i64 0),(2,i64 l.length),(3,.func (.func 81) #[] #[At0 L]),(8,i64 (i:Nat))],[]⟩,fun i X=>(1<=i/\i<=l.length)/\OwnS zE 3 B X (some ⟨g,0,none⟩) cap ((ze4 (zdg x) (l.take i)).reverse++l.drop i)/\w.grownBy X (some g),fun i=>l.length-i,1,
  (cvE rfl rfl),⟨⟨Ge _,hn1⟩,by rw [<- hl0,JQ];exact ho,j5 _ _⟩,?_⟩
 rintro i X ⟨⟨hi1,hi⟩,oX,gX⟩;dsimp only;refine biE (fun hc=>?_) fun hc=>?_
 ·have hc:(i:Int)<(l.length:Int):=dT hc;have hil:i<l.length:=by omega
  obtain⟨u,hu⟩:∃ u,l[i]=u:=⟨_,rfl⟩;have hum:u∈l:=by rw [<- hu];exact gM hil
  obtain⟨S,hS⟩:=nm (ze4 (zdg x) (l.take i));have hSm:∀ a∈S,a<48:=fun a ha=>by
   rw [hS] at ha;have:=(zcJ (key:=zdg x) (l.take i) []).1 ha;rcases this with h | h
   ·exact h48 a (JZ h)
   ·cases h
  have hSl:S.length=i:=by
   rw [hS];unfold ze4;rw [zcK,Qu];simp;omega
  have htk:ze4 (zdg x) (l.take (i+1))=zap (zdg x) S u:=by
   rw [tsg hil,hu,zlI,<- hS]
  rw [<- hS,<- JD hil,hu] at oX;refine⟨List Nat×List Nat,fun s=>⟨[(0,.slice (some ⟨g,0,none⟩) l.length cap),(1,i64 0),(2,i64 l.length),(3,.func (.func 81) #[] #[At0 L]),(8,i64 (i:Nat)),(9,i64 s.1.length)],[]⟩,fun s Y=>S.reverse=s.1++s.2/\(∀ y∈s.2,zdg x y<zdg x u)/\OwnS zE 3 B Y (some ⟨g,0,none⟩) cap (s.1++u::(s.2++l.drop (i+1)))/\w.grownBy Y (some g),fun s=>s.1.length,(S.reverse,[]),
   ⟨.cons rfl (.cons rfl (.cons rfl (.cons rfl (.cons rfl (.cons (by show _=some (i64 (S.reverse.length:Nat));rw [Ki,hSl];rfl) .nil))))),rfl⟩,⟨by rw [QM],fun y hy=>(by cases hy),oX,gX⟩,?_⟩
  clear oX gX;rintro⟨A,Bs⟩ Y ⟨hsp,hkB,oY,gY⟩;dsimp only at hsp hkB oY ⊢;have hAl:A.length<=i:=by
   have:=Gs List.length hsp;rw [Ki,hSl,lap] at this;omega
  have hdY:Bw Y Y.drew:=(Gj _ _).drew;have fin:∀ {Z:Wd},Bw Y Z->zap (zdg x) A.reverse u=u::A.reverse->((1<=i+1/\i+1<=l.length)/\OwnS zE 3 B Z (some ⟨g,0,none⟩) cap ((ze4 (zdg x) (l.take (i+1))).reverse++l.drop (i+1))/\w.grownBy Z (some g)):=fun {Z} hb hins=>by
   refine⟨⟨by omega,hil⟩,?_,jp gY (hb.mono gY.size)⟩;have h1:S=Bs.reverse++A.reverse:=by rw [<- Kl,<- hsp,List.reverse_reverse]
   rw [htk,h1,zhC _ _ (fun y hy=>hkB y (by simpa using hy)),hins];have h2:(Bs.reverse++u::A.reverse).reverse++l.drop (i+1)=A++u::(Bs++l.drop (i+1)):=by simp
   rw [h2];exact oY.below hb
  refine DrawE.ord [] [0,1,2,3,4,5,6,7,8,9,10,11,12,13,14,15,16] (by kernel_rfl) (biE (fun h=>?_) fun h=>?_)
  ·have h:(0:Int)<(A.length:Int):=dT h;obtain⟨A',y,hA⟩:∃ A' y,A=A'++[y]:=by
    refine⟨A.dropLast,A.getLast (fun e=>by rw [e] at h;simp at h),(List.dropLast_concat_getLast _).symm⟩
   subst hA;have hA'l:(A'++[y]).length=A'.length+1:=by simp
   rw [hA'l] at hAl h ⊢;have hrl:((A'++[y])++u::(Bs++l.drop (i+1))).length=l.length:=by
    have:=Gs List.length hsp;rw [Ki,hSl] at this;simp only [lap,Qs,QR,Qt] at this ⊢;omega
   have hyS:y<48:=hSm y (by
    have:y∈S.reverse:=(by rw [hsp];simp);simpa using this)
   obtain⟨b',o',hq',hb',hat'⟩:=oY.row.at (i:=A'.length) (by rw [hrl];omega);have hbo:b'=g/\o'=0:=by simpa using hq'.symm
   obtain⟨rfl,rfl⟩:=hbo;have c1:Y.cell? ⟨b',0+(A'.length+1)*1,none⟩=some (i64 u):=by
    have:=zc (hat' (A'.length+1) (by rw [hrl];omega)) (i:=0) (v:=i64 u) (by
     have e:((A'++[y])++u::(Bs++l.drop (i+1)))[A'.length+1]?=some u:=by
      rw [Jl (by simp),hA'l,UW];rfl
     rw [gE (by rw [hrl];omega)] at e;rw [Ug e];rfl)
    exact this
   have c2:Y.cell? ⟨b',0+A'.length*1,none⟩=some (i64 y):=by
    have:=zc (hat' A'.length (by rw [hrl];omega)) (i:=0) (v:=i64 y) (by
     have e:((A'++[y])++u::(Bs++l.drop (i+1)))[A'.length]?=some y:=by
      rw [KO,Jl (Ge _),UW];rfl
     rw [gE (by rw [hrl];omega)] at e;rw [Ug e];rfl)
    exact this
   refine⟨A'.length+1,rfl,by omega,?_⟩;refine⟨_,c1,(A'.length:Nat),(zk (by omega)).trans (by omega),A'.length,rfl,by omega,?_⟩;refine⟨_,c2,?_⟩;have fxY:ExH Y b x q c:=(gY.block b (hlt fx) (by simpa using hbg)).trans fx;have fLY:Y.heap[L]?=some (.cells #[At0 b] 86 (0,0)):=(gY.block L (hlt fL) (by simpa using hLg)).trans fL;have hTY:Tz64M Y:=zas hT (gY.block _ (za4 hT) (by simpa using htg));refine cmo (zuW (hdr fxY) (hdr fLY) hco (h48 u hum) hyS (hTY.below hdY)) ?_;rintro e Z ⟨rfl,hbZ⟩;refine⟨hbZ,?_⟩;have hYZ:=hdY.trans hbZ;refine biE (fun hm=>?_) fun hm=>?_
   ·have hm:zjF (zcW (x.co.to y)) (zcW (x.co.to u))<0:=dT hm;have hk:zdg x y<zdg x u:=by
     unfold zjF at hm;by_cases h1:zcW (x.co.to y)<zcW (x.co.to u)
     ·exact h1
     ·rw [Gy h1] at hm
      split at hm <;> omega
    have oZ:=oY.below hYZ;have gZ:=jp gY (hYZ.mono gY.size);obtain⟨b2,o2,hq2,hb2,hat2⟩:=oZ.row.at (i:=A'.length) (by rw [hrl];omega);have hbo2:b2=b'/\o2=0:=(by simpa using hq2.symm);obtain⟨rfl,rfl⟩:=hbo2;have dZ:Bw Z Z.drew:=(Gj _ _).drew;have d1:=zdp hYZ c1;have d2:=zdp hYZ c2;refine DrawE.ord [15,17] [0,1,2,3,4,5,6,7,8,9,10,11,12,13,14,15,16,17] (by kernel_rfl) ⟨(A'.length:Nat),(zk (by omega)).trans (by omega),(A'.length:Nat),(zk (by omega)).trans (by omega),A'.length,rfl,by omega,?_⟩;refine⟨_,d2,A'.length+1,rfl,by omega,?_⟩;refine⟨_,d1,A'.length+1,rfl,by omega,?_⟩;refine zjj (i:=A'.length+1) (v:=y) k3 rfl (oZ.below dZ) (by rw [hrl];omega) fun V oV gV=>⟨A'.length,rfl,by omega,?_⟩;refine zjj (i:=A'.length) (v:=u) k3 rfl oV (by rw [QS,hrl];omega) fun U oU gU=>?_;have e1:(((A'++[y])++u::(Bs++l.drop (i+1))).set (A'.length+1) y).set A'.length u=A'++u::((y::Bs)++l.drop (i+1)):=by
     rw [KO,JP _ _ (by omega),Jw,JP _ _ (by omega),UW];rfl
    rw [e1] at oU;refine⟨(A'.length:Nat),(zk (by omega)).trans (by omega),(A',y::Bs),(cvE rfl rfl),⟨by rw [hsp];simp,fun z hz=>?_,oU,zh (zh (jp gZ (dZ.mono gZ.size)) gV) gU⟩,by show A'.length<_;omega⟩;rcases UG.1 hz with hz | hz
    ·rw [hz];exact hk
    ·exact hkB z hz
   ·have hm:¬ zjF (zcW (x.co.to y)) (zcW (x.co.to u))<0:=dF hm;have hk:¬ zdg x y<zdg x u:=fun h=>hm (by unfold zjF;rw [Gz h];decide);refine nxI (by omega) ⟨i+1,(cvE rfl rfl),fin hYZ ?_,zdc (by omega)⟩;rw [Kl];exact Gy hk
  ·have h:¬ (0:Int)<(A.length:Int):=dF h;have hA0:A=[]:=List.length_eq_zero_iff.1 (by omega);subst hA0;exact brF (nxI (by omega) ⟨i+1,(cvE rfl rfl),fin hdY rfl,zdc (by omega)⟩)
 ·have hc:¬ (i:Int)<(l.length:Int):=dF hc;obtain rfl:i=l.length:=by omega
  rw [Qw,Qm,QM] at oX;exact⟨rfl,oX,gX⟩
end
theorem zvI:∃ G,TyEq PG 33 true 6 2 G/\∀ f:Nat->UInt8,G (seg 6 fun i=>u8 (f i)):=by
 refine⟨_,.array (m:=6) (by decide) Tryz.underlying33 (fun w=>Tryz.isAgg33 w) (jL (by kernel_rfl) (by kernel_rfl)).1 (by kernel_rfl) tU8,fun f i hi=>⟨((f i).toNat:Int),?_⟩⟩;unfold qJ;have h:=zdK (n:=6) (fun i=>u8 (f i)) hi;rw [Gf];have hl:i<(seg 6 fun i=>u8 (f i)).length:=by rw [zM];exact hi
 rw [<- JD hl,List.take_succ_cons,Us];rw [gE hl] at h;rw [Ug h];rfl
theorem zp6 {f g:Nat->UInt8}:seg 6 (fun i=>u8 (f i))=seg 6 (fun i=>u8 (g i))↔((List.range 6).all fun l=>decide (f l=g l))=true:=by
 rw [Qj];constructor
 ·intro h i hi;have hi:=Ur.1 hi;have h3:=zdK (n:=6) (fun i=>u8 (f i)) hi;rw [h,zdK (n:=6) (fun i=>u8 (g i)) hi] at h3;have h4:=Ug h3;unfold u8 at h4;injection h4 with _ h5;exact Uu (qG.1 h5).symm
 ·intro h;unfold seg;refine Kj fun i hi=>?_;rw [dT (h i hi)]
theorem zqM (x y:Operand) (f g:Nat->UInt8) (w:Wd):(do eqGuard .eql 33 x y (.agg (seg 6 fun i=>u8 (f i)).toArray) (.agg (seg 6 fun i=>u8 (g i)).toArray);binOp .eql 33 (.agg (seg 6 fun i=>u8 (f i)).toArray) (.agg (seg 6 fun i=>u8 (g i)).toArray)).run PG w = .ok (.bool ((List.range 6).all fun l=>decide (f l=g l))) w:=by
 obtain⟨G,h1,h2⟩:=zvI;have:=zmn h1 9998 rfl (by kernel_rfl) (zM 6 _) (zM 6 _) (h2 f) (h2 g) x y w;rw [this,zfJ zp6,Bool.decide_eq_true]
section
variable {b c L g cap:Nat} {x:ExD} {q:OA} {w:Wd} {l:List Nat}
theorem zj1 {B:Nat} (ho:OwnS zE 3 B w (some ⟨g,0,none⟩) cap l) (fx:ExH w b x q c) (fL:w.heap[L]?=some (.cells #[At0 b] 86 (0,0))) (hT:Tz64M w) (htg:4≠g) (hco:zG x.co.to) (h48:∀ a∈l,a<48) (hn:l.length<=19) (hn1:1<=l.length) :
  Calls PG 130 #[.slice (some ⟨g,0,none⟩) l.length cap,i64 l.length,.func (.func 81) #[] #[At0 L]] w fun e w'=>e = .returned (.tuple #[])/\OwnS zE 3 B w' (some ⟨g,0,none⟩) cap (zev (zdg x) l)/\w.grownBy w' (some g):=by
 refine zJ 63 [.slice (some ⟨g,0,none⟩) l.length cap,i64 l.length,.func (.func 81) #[] #[At0 L]] Tryz.func130 ?_;refine⟨Unit,fun _=>⟨[(0,.slice (some ⟨g,0,none⟩) l.length cap),(1,i64 l.length),(2,.func (.func 81) #[] #[At0 L]),(6,i64 20),(7,i64 0),(8,i64 20)],[]⟩,fun _ X=>w=X,fun _=>0,(),(cvE rfl rfl),rfl,?_⟩;rintro _ _ rfl;refine brN (Uj (by omega)) (cmo (zhz ho fx fL hT htg hco h48 (by omega) hn1) ?_);rintro e X ⟨rfl,oX,gX⟩;refine⟨Unit,fun _=>⟨[(1,i64 l.length),(6,i64 20)],[]⟩,fun _ Y=>X=Y,fun _=>0,(),(cvE rfl rfl),rfl,?_⟩;rintro _ _ rfl;exact brN (Uj (by omega)) ⟨rfl,oX,gX⟩
theorem zmf {q:OA} {n m:Nat} (hm:m<=1000):Calls PG 177 #[.slice q n cap,i64 (m:Nat),i64 (m:Nat),.func (.func 81) #[] #[At0 L]] w fun e w'=>e = .returned (.tuple #[])/\w=w':=by
 refine zJ 53 [.slice q n cap,i64 (m:Nat),i64 (m:Nat),.func (.func 81) #[] #[At0 L]] Tryz.func177 ?_;refine nxI (by omega) ⟨Unit,fun _=>⟨[(2,i64 (m:Nat)),(8,i64 ((m+1:Nat):Int))],[]⟩,fun _ X=>w=X,fun _=>0,(),(cvE rfl rfl),rfl,?_⟩;rintro _ _ rfl;exact brN (Uj (by omega)) ⟨rfl,rfl⟩
theorem znX {B:Nat} (ho:OwnS zE 3 B w (some ⟨g,0,none⟩) cap l) (fx:ExH w b x q c) (fL:w.heap[L]?=some (.cells #[At0 b] 86 (0,0))) (hT:Tz64M w) (htg:4≠g) (hco:zG x.co.to) (h48:∀ a∈l,a<48) (hn:l.length<=20) (hn1:1<=l.length) :
  Calls PG 130 #[.slice (some ⟨g,0,none⟩) l.length cap,i64 l.length,.func (.func 81) #[] #[At0 L]] w fun e w'=>e = .returned (.tuple #[])/\OwnS zE 3 B w' (some ⟨g,0,none⟩) cap (zev (zdg x) l)/\w.grownBy w' (some g):=by
 by_cases h19:l.length<=19
 ·exact zj1 ho fx fL hT htg hco h48 h19 hn1
 have hn20:l.length=20:=by omega
 refine zJ 63 [.slice (some ⟨g,0,none⟩) l.length cap,i64 l.length,.func (.func 81) #[] #[At0 L]] Tryz.func130 ?_;refine⟨Bool,fun k=>⟨[(0,.slice (some ⟨g,0,none⟩) l.length cap),(1,i64 l.length),(2,.func (.func 81) #[] #[At0 L]),(6,i64 20),(7,i64 (if k=true then (0:Nat) else l.length:Nat)),(8,i64 (if k=true then l.length else 40:Nat))],[]⟩,fun k X=>(k=true/\w=X)\/(k=false/\OwnS zE 3 B X (some ⟨g,0,none⟩) cap (zev (zdg x) l)/\w.grownBy X (some g)),fun k=>if k=true then 1 else 0,true,⟨.cons rfl (.cons rfl (.cons rfl (.cons rfl (.cons rfl (.cons (by rw [hn20];rfl) .nil))))),rfl⟩,.inl ⟨rfl,rfl⟩,?_⟩;rintro k X (⟨rfl,rfl⟩ | ⟨rfl,oX,gX⟩)
 ·refine brE (Uu (by show ((l.length:Nat):Int)<=(l.length:Int);omega)) (cmo (zhz ho fx fL hT htg hco h48 hn hn1) ?_);rintro e X ⟨rfl,oX,gX⟩;refine⟨40,by rw [hn20];rfl,?_⟩;exact⟨false,(cvE rfl rfl),.inr ⟨rfl,oX,gX⟩,by decide⟩
 ·refine brN (Uj (by show ¬ ((40:Nat):Int)<=(l.length:Int);omega)) (cmo (zmf (m:=l.length) (by omega)) ?_);rintro e _ ⟨rfl,rfl⟩;refine⟨Unit,fun _=>⟨[(1,i64 l.length),(6,i64 20)],[]⟩,fun _ Y=>X=Y,fun _=>0,(),(cvE rfl rfl),rfl,?_⟩;rintro _ _ rfl;exact brN (Uj (by omega)) ⟨rfl,oX,gX⟩
theorem zif {B:Nat} (ho:OwnS zE 3 B w (some ⟨g,0,none⟩) cap l) (fx:ExH w b x q c) (fL:w.heap[L]?=some (.cells #[At0 b] 86 (0,0))) (hT:Tz64M w) (htg:4≠g) (hco:zG x.co.to) (h48:∀ a∈l,a<48) (hn:l.length<=20) (hn1:1<=l.length) :
  Calls PG 80 #[.slice (some ⟨g,0,none⟩) l.length cap,.func (.func 81) #[] #[At0 L]] w fun e w'=>e = .returned (.tuple #[])/\OwnS zE 3 B w' (some ⟨g,0,none⟩) cap (zev (zdg x) l)/\w.grownBy w' (some g):=by
 refine zJ 9 [.slice (some ⟨g,0,none⟩) l.length cap,.func (.func 81) #[] #[At0 L]] Tryz.func80 ?_;refine cmo (znX ho fx fL hT htg hco h48 hn hn1) ?_;rintro e X ⟨rfl,h1,h2⟩;exact⟨rfl,h1,h2⟩
theorem zoE {l:List Nat} (h:0<l.length):l.headD 48=l[0]:=by
 cases l with
 | nil=>simp at h
 | cons a r=>rfl
theorem zo6 {k a:Nat} (h:a∈zdH x k):a<x.ev.length:=by
 unfold zdH at h;exact Ur.1 (QV.1 h).1
theorem zmZ {k a:Nat} (h:a∈qy x k):a<x.ev.length:=zo6 (znY.1 h)
theorem zuF (q:OA) (c:Nat):((exC x q c).drop 99).take 49=zd x.co:=by
 obtain⟨A,T,hA,hE⟩:=zmm x q c;show ((exC { x with co:=x.co } q c).drop 99).take 49=_;rw [hE,<- hA,Uo,Jg (by rw [ze];decide),JE (by rw [ze];decide)]
theorem zsI (q:OA) (c:Nat):((exC x q c).drop 327).take 6=seg 6 fun i=>u8 (x.mem i):=by
 obtain⟨A,T,hA,hE⟩:=zqH x q c [];have:=hE x.mem;rw [QM] at this;show ((exC { x with mem:=x.mem } q c).drop 327).take 6=_;rw [this,<- hA,Uo,Jg (by rw [zM];decide),JE (by rw [zM];decide)]
abbrev zrf (X:Wd) (b:Nat) (f:Nat->UInt8):Prop:=X.heap[b]?=some (.cells (seg 6 fun i=>u8 (f i)).toArray 33 (0,0))
theorem zoQ {locs:Nat} (fx:ExH w b x q c) (hv:ExV w x q) (hlo:locs<=6) (hne:∀ l,l<locs->zdH x l≠[]) (hT:Tz64M w) :
  CB 43 #[At0 b,i64 locs] w (.bool (zcC x locs)):=by
 refine qa 87 [At0 b,i64 locs] (.c .p (.c .p (.c .p (.c .p .p)))) Tryz.func43 ?_;obtain⟨L,hL⟩:=nm (w.heap.size);have hbw:=hlt fx;have hn:=hv.n;have htl:=za4 hT;refine⟨Unit,fun _=>⟨[(1,i64 locs),(2,At0 L)],[]⟩,fun _ X=>X.heap[L]?=some (.cells #[At0 b] 86 (0,0))/\X.heap.size=L+1/\Bw w X,⟨(),⟨.cons rfl (.cons (by rw [hL];rfl) .nil),rfl⟩,by rw [hL];exact zz w _,by rw [hL];exact wz _ _,(zba w _)⟩,?_⟩;rintro _ X ⟨fL,sX,hbX⟩;refine⟨Unit,fun _=>⟨[(1,i64 locs),(2,At0 L),(5,At0 (L+1))],[]⟩,fun _ Y=>zN Y (L+1) ⟨x.ev.length,fun _=>0⟩/\Y.heap.size=L+2/\Bw X Y,?_,?_⟩
 ·refine⟨_,zc (za fL) (i:=0) rfl,_,zc (za (zb hbX fx)) (i:=0) rfl,zd ⟨x.ev.length,fun _=>0⟩,by kernel_rfl,?_⟩;refine zn (X:=X) (v := .agg (zd ⟨x.ev.length,fun _=>0⟩).toArray) k30 (ze _) (by kernel_rfl) (zD _) fun Z hbZ fZ sZ=>?_;rw [sX] at fZ sZ;exact⟨(),⟨.cons rfl (.cons rfl (.cons (by rw [<- sX];rfl) .nil)),rfl⟩,fZ,sZ,hbZ⟩
 rintro _ Y ⟨fT,sY,hbY⟩;refine⟨Unit,fun _=>⟨[(1,i64 locs),(2,At0 L),(5,At0 (L+1)),(6,At0 (L+2))],[]⟩,fun _ Z=>zrf Z (L+2) (fun _=>0)/\zN Z (L+1) ⟨x.ev.length,fun _=>0⟩/\Z.heap[L]?=some (.cells #[At0 b] 86 (0,0))/\Z.heap.size=L+3/\Bw w Z,?_,?_⟩
 ·exact⟨(),⟨.cons rfl (.cons rfl (.cons rfl (.cons (by rw [<- sY];rfl) .nil))),rfl⟩,by rw [<- sY];exact zz Y _,qm _ fT,qm _ (zb hbY fL),by rw [wz,sY],((zst hbX hbY)).alloc (by have:=hbX.size;have:=hbY.size;omega) _⟩
 clear fL sX hbX fT sY hbY;clear X Y;rintro _ X ⟨fM,fT,fL,sX,hbX⟩;obtain⟨P0,hP0⟩:∃ P0:RelD×(Nat->UInt8),P0=(⟨x.ev.length,fun _=>0⟩,fun _=>0):=⟨_,rfl⟩;have hco:zcC x locs=match zlb x locs 0 P0 with
  | none=>false
  | some p=>zb6 p.1 x.co&&(List.range 6).all fun l=>decide (p.2 l=x.mem l):=by rw [hP0];rfl
 refine⟨RelD×(Nat->UInt8),fun P=>⟨[(2,At0 L),(5,At0 (L+1)),(6,At0 (L+2))],[]⟩,fun P Z=>zlb x locs 0 P0=some P/\zrf Z (L+2) P.2/\zN Z (L+1) P.1/\Z.heap[L]?=some (.cells #[At0 b] 86 (0,0))/\Bw w Z,?_,?_⟩
 ·refine⟨Nat×(RelD×(Nat->UInt8)),fun s=>⟨[(2,At0 L),(5,At0 (L+1)),(6,At0 (L+2)),(17,i64 locs),(18,i64 (s.1:Nat))],[]⟩,fun s Z=>s.1<=locs/\zlb x (locs-s.1) s.1 s.2=zlb x locs 0 P0/\zG s.2.1.to/\zrf Z (L+2) s.2.2/\zN Z (L+1) s.2.1/\Z.heap[L]?=some (.cells #[At0 b] 86 (0,0))/\Bw w Z/\L+3<=Z.heap.size,fun s=>locs-s.1,(0,P0),
   (cvE rfl rfl),⟨Gg _,rfl,by rw [hP0];exact fun i _=>(by show 0<_;decide),by rw [hP0];exact fM,by rw [hP0];exact fT,fL,hbX,by omega⟩,?_⟩
  clear fM fT fL sX hbX;rintro⟨l,P⟩ Z ⟨hl,hgo,hPw,fM,fT,fL,hbZ,sZ⟩;dsimp only at hl hgo hPw fM fT sZ ⊢;refine biE (fun hc=>?_) fun hc=>?_
  ·have hc:(l:Int)<(locs:Int):=dT hc;have hll:l<locs:=by omega
   have hstep:zlb x (locs-l) l P=if (qy x l).headD 48=l then zlb x (locs-(l+1)) (l+1) (zbw (qy x l) P.1,upd P.2 l (zhw x.ev (qy x l))) else none:=by
    rw [show locs-l=(locs-(l+1))+1 by omega];rfl
   refine⟨_,zc (za fL) (i:=0) rfl,_,zc (za (zb hbZ fx)) (i:=0) rfl,?_⟩;obtain⟨pr,hpr⟩:∃ pr:Nat->Bool,pr=fun i=>decide ((evA x i).k=2)&&decide ((evA x i).l.toNat=l):=⟨_,rfl⟩;refine⟨Nat×OA×Nat,fun s=>⟨[(2,At0 L),(5,At0 (L+1)),(6,At0 (L+2)),(7,i64 (l:Nat)),(8,.slice s.2.1 ((List.range s.1).filter pr).length s.2.2),(17,i64 locs),(18,i64 (l:Nat)),(24,.slice q x.ev.length c),(25,i64 x.ev.length),(26,i64 (s.1:Nat))],[]⟩,fun s V=>s.1<=x.ev.length/\OwnS zE 3 Z.heap.size V s.2.1 s.2.2 ((List.range s.1).filter pr)/\Bw Z V,fun s=>x.ev.length-s.1,(0,none,0),
    (cvE rfl rfl),⟨Gg _,OwnS.nil,Gj _ _⟩,?_⟩
   rintro⟨k,ps,cs⟩ V ⟨hk,oV,hbV⟩;dsimp only at hk oV ⊢;have hVs:=hbV.size;refine biE (fun hc=>?_) fun hc=>?_
   ·have hc:(k:Int)<(x.ev.length:Int):=dT hc;have hkl:k<x.ev.length:=(by omega);have hbwV:=zst hbZ hbV;obtain⟨bq,oq,hqe,hb,hat⟩:=zcd (hv.ev.below hbwV) hkl;rw [zeU] at hat;have hfl:(List.range (k+1)).filter pr=(List.range k).filter pr++if pr k=true then [k] else []:=by
     rw [QY,Kv,Qn,List.filter_nil]
    have hprk:pr k=(decide ((evA x k).k=2)&&decide ((evA x k).l.toNat=l)):=(by rw [hpr]);have hll2:((List.range k).filter pr).length<=k:=by
     have:=JL pr (List.range k);rw [KV] at this;exact this
    obtain⟨e,he⟩:=nm (evA x k);rw [<- he] at hat hprk;have eq0:some (Value.slice q x.ev.length c)=some (Value.slice (some ⟨bq,oq,none⟩) x.ev.length c):=(by rw [hqe]);subst hqe;refine⟨k,rfl,hkl,evE.enc e,rfl,hat,hb,zn (X:=V) (v := .agg (evE.enc e).toArray) zd3 rfl rfl (Qj.2 fun u hu=>evE.one e u hu) fun U hbU fU sU=>?_⟩;have fU:U.heap[V.heap.size]?=some (.cells (evE.enc e).toArray 158 (0,0)):=fU;have oU:=oV.below hbU;have hbU2:=hbV.trans (hbU.mono hVs);have hUs:=hbU2.size;have skip:pr k=false->(k+1<=x.ev.length/\OwnS zE 3 Z.heap.size U ps cs ((List.range (k+1)).filter pr)/\Bw Z U):=fun h=>⟨hkl,by rw [hfl,h];simpa using oU,hbU2⟩;have zcm:pr k=false->((List.range (k+1)).filter pr).length=((List.range k).filter pr).length:=fun h=>by rw [hfl,h];simp
    refine⟨u8 e.k,zc (za fU) (i:=1) rfl,biE (fun h1=>?_) fun h1=>?_⟩
    ·have h1:e.k=2:=qG.1 (dT h1);refine⟨u8 e.l,zc (za fU) (i:=2) rfl,(e.l.toNat:Int),qN _,biE (fun h2=>?_) fun h2=>?_⟩
     ·have h2:(e.l.toNat:Int)=(l:Int):=dT h2;have hp1:pr k=true:=(by rw [hprk,Uu h1,Uu (by omega:e.l.toNat=l)];rfl);rw [Gz hp1] at hfl;refine⟨⟨by decide,by decide,rfl⟩,zE.enc k,rfl,?_⟩;have hb2:Bw U (U.alloc (.cells (zE.enc k).toArray 3)):=zba _ _;have sb2:=hb2.size;unfold zeK zaI;show SatR _ _;refine zo2 (oU.below hb2) (qH zE k) (by omega) (by omega) fun p' c' S oS gS hat2=>?_;rw [zaP] at gS;rw [<- hfl] at oS ⊢;exact nxI (by omega) ⟨(k+1,p',c'),(cvE rfl rfl),⟨hkl,oS,hbU2.trans ((hb2.mono hUs).trans (q5 (oU.below hb2) (by omega) (Ge _) gS))⟩,zdc (by omega)⟩
     ·have h2:¬ (e.l.toNat:Int)=(l:Int):=dF h2;have hp0:pr k=false:=(by rw [hprk,Uj (by omega:¬ e.l.toNat=l),Uk]);exact nxI (by omega) ⟨(k+1,ps,cs),⟨.cons rfl (.cons rfl (.cons rfl (.cons rfl (.cons (by show _=some (Value.slice ps ((List.range (k+1)).filter pr).length cs);rw [zcm hp0];rfl) (.cons rfl (.cons rfl (.cons rfl (.cons rfl (.cons rfl .nil))))))))),rfl⟩,skip hp0,zdc (by omega)⟩
    ·have h1:¬ e.k=2:=fun e2=>(dF h1) (by rw [e2];rfl);have hp0:pr k=false:=(by rw [hprk,Uj h1];rfl);exact brF (nxI (by omega) ⟨(k+1,ps,cs),⟨.cons rfl (.cons rfl (.cons rfl (.cons rfl (.cons (by show _=some (Value.slice ps ((List.range (k+1)).filter pr).length cs);rw [zcm hp0];rfl) (.cons rfl (.cons rfl (.cons rfl (.cons rfl (.cons rfl .nil))))))))),rfl⟩,skip hp0,zdc (by omega)⟩)
   have hc:¬ (k:Int)<(x.ev.length:Int):=dF hc;obtain rfl:k=x.ev.length:=by omega
   have hwr:(List.range x.ev.length).filter pr=zdH x l:=by rw [hpr];rfl
   rw [hwr] at oV ⊢;have hwn:=hne l hll;have hw1:1<=(zdH x l).length:=List.length_pos_iff.2 hwn;have hw19:(zdH x l).length<=20:=by
    have:=JL pr (List.range x.ev.length);rw [hwr,KV] at this;omega
   have hps:∃ g,ps=some ⟨g,0,none⟩:=by
    rcases oV.inv with ⟨_,_,h⟩ | ⟨g,cur,h,_⟩
    ·exact (hwn h).elim
    ·exact⟨g,h⟩
   obtain⟨g,rfl⟩:=hps;have hg:=(zA oV rfl).1;have hg:Z.heap.size<=g:=hg;have hbwV:=zst hbZ hbV;have hZw:=hbZ.size;refine cmo (zif oV (zb hbwV fx) (zb hbV fL) (hT.below hbwV) (by omega) hv.co (fun a ha=>by have:=zo6 ha;omega) hw19 hw1) ?_;rintro e U ⟨rfl,oU,gU⟩;have oU:OwnS zE 3 Z.heap.size U (some ⟨g,0,none⟩) cs (qy x l):=oU;have hrl:(qy x l).length=(zdH x l).length:=znZ _;have hbU:Bw Z U:=hbV.trans (zq gU hVs hg);have hbwU:=hbZ.trans (hbU.mono hZw);have hU0:0<(qy x l).length:=by omega
   obtain⟨bq,oq,hqe,hbq,hatq⟩:=oU.row.at hU0;have hbo:bq=g/\oq=0:=by simpa using hqe.symm
   obtain⟨rfl,rfl⟩:=hbo;rw [<- hrl];have hh:(qy x l).headD 48=(qy x l)[0]:=zoE hU0;refine⟨0,rfl,hU0,i64 (qy x l)[0],by have:=zc (hatq 0 hU0) (i:=0) (v:=i64 (qy x l)[0]) rfl;exact this,biE (fun h=>?_) fun h=>?_⟩
   ·have h:(!decide (((qy x l)[0]:Int)=(l:Int)))=true:=h;have h:¬ ((qy x l)[0]:Int)=(l:Int):=(by simpa using h);rw [hstep,Gy (by rw [hh];omega)] at hgo;refine⟨rb ?_,hbwU⟩;rw [hco,<- hgo]
   have h:(!decide (((qy x l)[0]:Int)=(l:Int)))=false:=h;have h:((qy x l)[0]:Int)=(l:Int):=by simpa using h
   rw [hstep,Gz (by rw [hh];omega)] at hgo;have fTU:=zb hbU fT;have hRT:RelAt U (L+1) 0 30 [] [] P.1:=⟨rfl,by simpa using fTU⟩;have hrk48:∀ a∈qy x l,a<48:=fun a ha=>by have:=zmZ ha;omega
   have hLZ:=hlt fT;have hL2Z:=hlt fM;refine cmo (zqb hRT hPw oU.row (fun a ha=>by cases ha;exact⟨hbq,by show bq≠L+1;omega⟩) (by omega) hrk48) ?_;rintro e S ⟨rfl,hRS,gS⟩;have fTS:zN S (L+1) (zbw (qy x l) P.1):=by simpa using hRS.cells
   have hbS:Bw w S:=hbwU.trans (zq gS hbwU.size (by omega));have fMS:=(gS.block (L+2) (hlt (zb hbU fM)) (by simp)).trans (zb hbU fM);have fLS:=(gS.block L (hlt (zb hbU fL)) (by simp)).trans (zb hbU fL);have oS:=qq oU fTU (by decide) gS;obtain⟨j,hj⟩:∃ j,j+1=(qy x l).length:=⟨(qy x l).length-1,by omega⟩;have hjl:j<(qy x l).length:=by omega
   obtain⟨b6,o6,hp6,hl6,hat6⟩:=oS.row.at hjl;have hbo6:b6=bq/\o6=0:=by simpa using hp6.symm
   obtain⟨rfl,rfl⟩:=hbo6;obtain⟨t,ht⟩:∃ t,(qy x l)[j]=t:=⟨_,rfl⟩;have htev:t<x.ev.length:=zmZ (by rw [<- ht];exact gM hjl);have hlast:(qy x l).getLastD 0=t:=by
    rw [List.getLastD_eq_getLast?,List.getLast?_eq_getElem?,show (qy x l).length-1=j by omega,gE hjl,ht];rfl
   obtain⟨b7,o7,hp7,hl7,hat7⟩:=zcd (hv.ev.below hbS) htev;rw [zeU] at hat7;have hlV:zhw x.ev (qy x l)=(evA x t).v:=by
    show (x.ev.getD ((qy x l).getLastD 0) ev0).v=_;rw [hlast];rfl
   have dS:Bw S S.drew:=(Gj _ _).drew;refine DrawE.ord [15] [0,1,2,3,4,5,6,7,8,9,10,11,12,13,14,15] (by kernel_rfl) ⟨_,zc (za (hdr fLS)) (i:=0) rfl,_,zc (za (hdr (zb hbS fx))) (i:=0) rfl,(j:Nat),(zk (by omega)).trans (by omega),j,rfl,hjl,i64 t,by have:=zc (zt dS (hat6 j hjl)) (i:=0) (v:=i64 t) (by rw [ht];rfl);exact this,?_⟩;rw [hp7];refine⟨t,rfl,htev,u8 (evA x t).v,by have:=zc (zt dS hat7) (i:=3) (v:=u8 (evA x t).v) rfl;exact this,l,rfl,by omega,?_⟩;refine zy k5 (hdr fMS) (o:=0+l*1) (v:=u8 (evA x t).v) rfl rfl (by rw [zM];omega) rfl fun T fT2 gT sT=>?_;have gT2:S.grownBy T (some (L+2)):=zh (zi dS) gT;have e8:=zmU (n:=6) (fun i=>u8 (P.2 i)) (fun i=>u8 (upd P.2 l (evA x t).v i)) (i:=l) (by omega) rfl (fun j hj=>by rw [za3 _ _ hj]);rw [ji] at e8;rw [Gf,UY,e8] at fT2;exact nxI (by omega) ⟨(l+1,(zbw (qy x l) P.1,upd P.2 l (evA x t).v)),(cvE rfl rfl),⟨hll,by rw [<- hlV];exact hgo,ziM hPw hrk48,fT2,(gT2.block (L+1) (hlt fTS) (by simp)).trans fTS,(gT2.block L (hlt fLS) (by simp)).trans fLS,hbS.trans (zq gT2 hbS.size (by omega)),by have:=gT2.size;have:=gS.size;have:=hbU.size;omega⟩,zdc (by omega)⟩
  ·have hc:¬ (l:Int)<(locs:Int):=dF hc;obtain rfl:l=locs:=by omega
   rw [UW] at hgo;exact⟨P,(cvE rfl rfl),hgo.symm,fM,fT,fL,hbZ⟩
 rintro P Z ⟨hgo,fM,fT,fL,hbZ⟩;have hco2:zcC x locs=(zb6 P.1 x.co&&(List.range 6).all fun l=>decide (P.2 l=x.mem l)):=by rw [hco,hgo]
 refine DrawE.ord [] [0,1,2,3,4,5,6,7,8,9,10,11,12,13,14,15] (by kernel_rfl) ?_;have dZ:Bw Z Z.drew:=(Gj _ _).drew;refine⟨zd P.1,ze _,za (hdr fT),hlt (hdr fT),_,zc (za (hdr fL)) (i:=0) rfl,?_⟩;have fxZ:=hdr (zb hbZ fx);refine⟨zd x.co,ze _,by have h:=zV (n:=99) (m:=49) (za fxZ);rw [show (exC x q c).toArray.toList=exC x q c from rfl,zuF] at h;exact h,hlt fxZ,_,fun w=>znr _ _ P.1 x.co w,?_⟩;have fin:Bw w Z.drew:=zst hbZ dZ;refine biE (fun h=>?_) fun h=>?_
 ·have h:zb6 P.1 x.co=true:=h;exact⟨seg 6 (fun i=>u8 (P.2 i)),zM _ _,za (hdr fM),hlt (hdr fM),_,zc (za (hdr fL)) (i:=0) rfl,seg 6 (fun i=>u8 (x.mem i)),zM _ _,by have h:=zV (n:=327) (m:=6) (za fxZ);rw [show (exC x q c).toArray.toList=exC x q c from rfl,zsI] at h;exact h,hlt fxZ,_,fun w=>zqM _ _ P.2 x.mem w,rb (by rw [hco2,h,UA]),fin⟩
 ·have h:zb6 P.1 x.co=false:=h;exact⟨rb (by rw [hco2,h,Ul]),fin⟩
end
section
variable {b c:Nat} {x:ExD} {q:OA} {w:Wd}
theorem zjb {X:Wd} {o:Nat} {A T:List Value} {r:RelD} (fx:ExH X b x q c) (hA:A.length=o) (hE:exC x q c=A++(zd r++T)) {i:Nat} (hi:i<48):X.cell? ⟨b,o+1+i*1,none⟩=some (s64 (r.to i)):=by
 have hR:RelAt X b o 37 A T r:=⟨hA,by rw [<- hE];exact fx⟩;exact hR.cell hi
theorem zt8 {X:Wd} (fx:ExH X b x q c) {i:Nat} (hi:i<48):X.cell? ⟨b,0+1+1+i*1,none⟩=some (s64 (x.po.to i)):=by
 obtain⟨A,T,hA,hE⟩:=znn x q c [];exact zjb fx hA (by rw [<- hE,QM]) hi
theorem zuK {X:Wd} (fx:ExH X b x q c) {i:Nat} (hi:i<48):X.cell? ⟨b,0+148+1+i*1,none⟩=some (s64 (x.dt.to i)):=by
 obtain⟨A,T,hA,hE⟩:=zno x q c [];exact zjb fx hA (by rw [<- hE,QM]) hi
theorem zuU {X:Wd} (fx:ExH X b x q c) {i:Nat} (hi:i<48):X.cell? ⟨b,0+197+1+i*1,none⟩=some (s64 (x.ct.to i)):=by
 obtain⟨A,T,hA,hE⟩:=znp x q c [];exact zjb fx hA (by rw [<- hE,QM]) hi
theorem zt0 {X:Wd} (fx:ExH X b x q c) {i:Nat} (hi:i<48):X.cell? ⟨b,0+246+1+i*1,none⟩=some (s64 (x.rm.to i)):=by
 obtain⟨A,T,hA,hE⟩:=znm x q c [];exact zjb fx hA (by rw [<- hE,QM]) hi
theorem n64 {a b:Nat} (h:(!decide ((a:Int)=(b:Int)))=true):¬ a=b:=fun e=>by
 rw [e] at h;simp at h
theorem y64 {a b:Nat} (h:(!decide ((a:Int)=(b:Int)))=false):a=b:=by
 have h:(a:Int)=(b:Int):=by simpa using h
 exact UC h
theorem n8 {a d:UInt8} (h:(!decide ((a.toNat:Int)=(d.toNat:Int)))=true):¬ a=d:=fun e2=>by
 rw [e2] at h;simp at h
theorem y8 {a d:UInt8} (h:(!decide ((a.toNat:Int)=(d.toNat:Int)))=false):a=d:=qG.1 (by simpa using h)
def wrG (x:ExD) (k:Nat):Nat:=(List.range k).foldl (fun s i=>if (evA x i).k=2 then s|||2^i else s) 0
theorem zjV (x:ExD) (k:Nat):wrG x (k+1)=if (evA x k).k=2 then wrG x k|||2^k else wrG x k:=by
 unfold wrG;rw [QY,KT];rfl
theorem ziZ (x:ExD):∀ k,k<=64->wrG x k<2^64
 | 0,_=>by show 0<_;decide
 | k+1,h=>by
  rw [zjV]
  split
  ·exact KY (ziZ x k (by omega)) (z6 (by omega))
  ·exact ziZ x k (by omega)
theorem zms (fx:ExH w b x q c) (hv:ExV w x q) (hrn:x.rm.n=x.ev.length) (hok:okR x.rm=true) (hT:Tz64M w) :
  CB 44 #[At0 b] w (.bool (za9 x)):=by
 refine qa 130 [At0 b] (.s .p (.s .p (.c .p .p))) Tryz.func44 ?_;have hn:=hv.n;obtain⟨W,hW⟩:=nm (zfO x);have hWG:W=wrG x x.ev.length:=by rw [hW];rfl
 have hW64:W<2^64:=by rw [hWG];exact ziZ x _ (by omega)
 refine⟨Unit,fun _=>⟨[(0,At0 b),(3,s64 W),(4,s64 0)],[]⟩,fun _ X=>Bw w X,?_,?_⟩
 ·refine⟨_,zc (za fx) (i:=0) rfl,?_⟩;refine⟨Nat,fun k=>⟨[(0,At0 b),(3,s64 (wrG x k)),(4,s64 0),(17,.slice q x.ev.length c),(18,i64 x.ev.length),(19,i64 (k:Nat))],[]⟩,fun k X=>k<=x.ev.length/\Bw w X,fun k=>x.ev.length-k,0,
   (cvE rfl rfl),⟨Gg _,Gj _ _⟩,?_⟩
  rintro k X ⟨hk,hbX⟩;dsimp only;refine biE (fun hc=>?_) fun hc=>?_
  ·have hc:(k:Int)<(x.ev.length:Int):=dT hc;have hkl:k<x.ev.length:=by omega
   obtain⟨bq,oq,hqe,hb,hat⟩:=zcd (hv.ev.below hbX) hkl;rw [zeU] at hat;obtain⟨e,he⟩:=nm (evA x k);have hs:=zjV x k;rw [<- he] at hat hs;subst hqe;refine⟨k,rfl,hkl,evE.enc e,rfl,hat,hb,zn (X:=X) (v := .agg (evE.enc e).toArray) zd3 rfl rfl (Qj.2 fun u hu=>evE.one e u hu) fun Y hbY fY sY=>?_⟩;have fY:Y.heap[X.heap.size]?=some (.cells (evE.enc e).toArray 158 (0,0)):=fY;have hbY2:=zst hbX hbY;refine⟨u8 e.k,zc (za fY) (i:=1) rfl,biE (fun h=>?_) fun h=>?_⟩
   ·have h:e.k=2:=qG.1 (dT h);rw [Gz h] at hs;exact⟨by omega,((2^k:Nat):Int),jU (e:=k) (by omega),((wrG x k|||2^k:Nat):Int),zaj (ziZ x k (by omega)) (z6 (by omega)),nxI (by omega) ⟨k+1,⟨.cons rfl (.cons (by show _=some (s64 (wrG x (k+1)));rw [hs];rfl) (.cons rfl (.cons rfl (.cons rfl (.cons rfl .nil))))),rfl⟩,⟨hkl,hbY2⟩,zdc (by omega)⟩⟩
   ·have h:¬ e.k=2:=fun e2=>(dF h) (by rw [e2];rfl);rw [Gy h] at hs;exact nxI (by omega) ⟨k+1,⟨.cons rfl (.cons (by show _=some (s64 (wrG x (k+1)));rw [hs];rfl) (.cons rfl (.cons rfl (.cons rfl (.cons rfl .nil))))),rfl⟩,⟨hkl,hbY2⟩,zdc (by omega)⟩
  ·have hc:¬ (k:Int)<(x.ev.length:Int):=dF hc;obtain rfl:k=x.ev.length:=by omega
   exact⟨(),⟨.cons rfl (.cons (by show _=some (s64 W);rw [hWG];rfl) (.cons rfl .nil)),rfl⟩,hbX⟩
 rintro _ X hbX;refine⟨_,zc (za (zb hbX fx)) (i:=0) rfl,?_⟩;have hdep:za9 x=zdy x W 0 x.ev 0:=by rw [hW];rfl
 refine⟨Nat×Nat,fun s=>⟨[(0,At0 b),(3,s64 W),(4,s64 s.2),(35,.slice q x.ev.length c),(36,i64 x.ev.length),(37,i64 (s.1:Nat))],[]⟩,fun s X=>s.1<=x.ev.length/\zdy x W s.1 (x.ev.drop s.1) s.2=za9 x/\s.2<2^64/\Bw w X,fun s=>x.ev.length-s.1,(0,0),
  (cvE rfl rfl),⟨Gg _,hdep.symm,by decide,hbX⟩,?_⟩
 clear hbX;rintro⟨k,h⟩ X ⟨hk,hgo,hh,hbX⟩;dsimp only at hk hgo hh ⊢;refine biE (fun hc=>?_) fun hc=>?_
 ·have hc:(k:Int)<(x.ev.length:Int):=dT hc;have hkl:k<x.ev.length:=by omega
  have hk48:k<48:=by omega
  obtain⟨bq,oq,hqe,hb,hat⟩:=zcd (hv.ev.below hbX) hkl;rw [zeU] at hat;obtain⟨e,he⟩:=nm (evA x k);rw [<- he] at hat;have hdrp:x.ev.drop k=e::x.ev.drop (k+1):=by
   rw [<- JD hkl,he];unfold evA;rw [gDe,gE hkl];rfl
  rw [hdrp] at hgo;unfold zdy at hgo;obtain⟨d,hd⟩:=nm (x.dt.to k);obtain⟨t,ht⟩:=nm (x.ct.to k);obtain⟨r,hr⟩:=nm (x.rm.to k);obtain⟨po,hpo⟩:=nm (x.po.to k);dsimp only at hgo;rw [<- hd,<- ht,<- hr,<- hpo] at hgo;have d64:d<2^64:=by rw [hd];exact hv.dt k hk48
  have t64:t<2^64:=by rw [ht];exact hv.ct k hk48
  have r64:r<2^64:=by rw [hr];exact hv.rm k hk48
  have p64:po<2^64:=by rw [hpo];exact hv.po k hk48
  have dt64:=KY d64 t64;have dtr64:=KY dt64 r64;have dr64:=KY d64 r64;subst hqe;refine⟨k,rfl,hkl,evE.enc e,rfl,hat,hb,zn (X:=X) (v := .agg (evE.enc e).toArray) zd3 rfl rfl (Qj.2 fun u hu=>evE.one e u hu) fun Y hbY fY sY=>?_⟩;have fY:Y.heap[X.heap.size]?=some (.cells (evE.enc e).toArray 158 (0,0)):=fY;have hbY2:=zst hbX hbY;have dY:Bw Y Y.drew:=(Gj _ _).drew;have fxY:=hdr (zb hbY2 fx);have fYd:=hdr fY;have hbD:=zst hbY2 dY;have no:∀ {Z:Wd},Bw w Z->za9 x=false->(Ending.returned (.bool false)=Ending.returned (.bool (za9 x))/\Bw w Z):=fun {Z} hb h=>⟨rb h.symm,hb⟩;refine DrawE.ord [] [0,1,2,3,4,5,6,7,8,9,10,11,12,13,14,15,16,17,18,19,20,21,22,23] (by kernel_rfl) ⟨k,rfl,hk48,s64 d,by rw [hd];exact zuK fxY hk48,?_⟩;refine⟨k,rfl,hk48,s64 t,by rw [ht];exact zuU fxY hk48,?_⟩;refine⟨k,rfl,hk48,s64 r,by rw [hr];exact zt0 fxY hk48,?_⟩;refine⟨_,zaj d64 t64,_,zaj dt64 r64,biE (fun h1=>?_) fun h1=>?_⟩
  ·have h1:d|||t|||r=0:=UC (dT h1);rw [Gz h1] at hgo;exact nxI (by omega) ⟨(k+1,h),(cvE rfl rfl),⟨hkl,hgo,hh,hbD⟩,zdc (by omega)⟩
  have h1:¬ d|||t|||r=0:=fun e2=>(dF h1) (by rw [e2];rfl);rw [Gy h1] at hgo;refine⟨u8 e.k,zc (za fYd) (i:=1) rfl,biE (fun h2=>?_) fun h2=>?_⟩
  ·have h2:¬ e.k=1:=n8 (d:=1) h2;rw [Gy fun h=>h2 h.1] at hgo;exact brT (brT (no hbD hgo.symm))
  have h2:e.k=1:=y8 (d:=1) h2;refine⟨_,zaj d64 r64,_,zbZ dr64 hW64,biE (fun h3=>?_) fun h3=>?_⟩
  ·have h3:¬ jC (d|||r) W=0:=n64 (b:=0) h3;rw [Gy fun h=>h3 h.2.1] at hgo;exact brT (no hbD hgo.symm)
  have h3:jC (d|||r) W=0:=y64 (b:=0) h3;refine⟨_,zaj d64 t64,_,zaj dt64 r64,k,rfl,hk48,s64 po,by rw [hpo];exact zt8 fxY hk48,?_⟩;refine⟨_,zbZ dtr64 p64,biE (fun h4=>?_) fun h4=>?_⟩
  ·have h4:¬ jC (d|||t|||r) po=0:=n64 (b:=0) h4;rw [Gy fun h=>h4 h.2.2] at hgo;exact no hbD hgo.symm
  have h4:jC (d|||t|||r) po=0:=y64 (b:=0) h4;rw [Gz ⟨h2,h3,h4⟩] at hgo;refine cmo (zbc r64 (hT.below hbD)) ?_;rintro e2 Z ⟨rfl,hbZ⟩;have hbZ2:=zst hbD hbZ;by_cases hr0:r=0
  ·have e1:(els r).isEmpty=true:=by rw [hr0];rfl
   rw [e1];rw [Gz hr0] at hgo;exact brF (nxI (by omega) ⟨(k+1,h),(cvE rfl rfl),⟨hkl,hgo,hh,hbZ2⟩,zdc (by omega)⟩)
  rw [Gy hr0] at hgo;obtain⟨hhd,hem⟩:=zcc hr0 r64;rw [hhd,hem];have hmem:=znv hr0 r64;have hbit:r.testBit (ctz r)=true:=(zbr.1 hmem).2;have hvl:ctz r<x.ev.length:=by
   have:=(zjn hok hv.rm hk48 (by rw [<- hr];exact hbit)).1;rw [hrn] at this;omega
  obtain⟨v,hvd⟩:=nm (ctz r);rw [<- hvd] at hvl hgo ⊢;refine brT ?_;have fZ:=zb hbZ fYd;have dZ:Bw Z Z.drew:=(Gj _ _).drew;have hbZ3:=zst hbZ2 dZ;refine DrawE.ord [] [0,1,2,3,4,5,6,7,8,9,10,11,12,13,14,15,16,17,18,19,20,21,22,23] (by kernel_rfl) ⟨by omega,((2^v:Nat):Int),jU (e:=v) (by omega),biE (fun h5=>?_) fun h5=>?_⟩
  ·have h5:¬ r=2^v:=n64 h5;rw [Gy fun h=>h5 h.1] at hgo;exact brT (brT (no hbZ3 hgo.symm))
  have h5:r=2^v:=y64 h5;refine⟨by omega,_,zgI (a:=h) (k:=v) (by omega),_,jV (a:=h/2^v) (b:=1) (KE (Nat.div_le_self _ _) hh) (by decide),?_⟩;rw [zjJ]
  cases hb5:h.testBit v with
  | true =>
   rw [Gy fun h=>(by rw [hb5] at h;cases h.2.1)] at hgo;exact brT (brT (no hbZ3 hgo.symm))
  | false =>
   refine brF ?_;obtain⟨bq2,oq2,hqe2,hb2,hat2⟩:=zcd (hv.ev.below hbZ3) hvl;rw [zeU] at hat2;obtain⟨f,hf⟩:=nm (evA x v);rw [<- hf] at hat2 hgo;refine⟨_,zc (za (zb hbZ3 fx)) (i:=0) rfl,v,rfl,hvl,?_⟩;simp only [KZ,Uw,Gr] at hqe2;rw [<- hqe2.1,<- hqe2.2] at hat2;refine⟨u8 f.l,by have:=zc hat2 (i:=2) (v:=u8 f.l) rfl;exact this,u8 e.l,zc (za (hdr fZ)) (i:=2) rfl,biE (fun h6=>?_) fun h6=>?_⟩
   ·have h6:¬ f.l=e.l:=n8 h6;rw [Gy fun h=>h6 h.2.2] at hgo;exact no hbZ3 hgo.symm
   have h6:f.l=e.l:=y8 h6;rw [Gz ⟨h5,hb5,h6⟩] at hgo;exact⟨_,zaj hh r64,nxI (by omega) ⟨(k+1,h|||r),(cvE rfl rfl),⟨hkl,hgo,KY hh r64,hbZ3⟩,zdc (by omega)⟩⟩
 ·have hc:¬ (k:Int)<(x.ev.length:Int):=dF hc;obtain rfl:k=x.ev.length:=by omega
  rw [Qm] at hgo;exact⟨rb hgo,hbX⟩
end
theorem zk3 {locs:Nat}:∀ (ev:List Ev) (i:Nat) (t:Int) (n:Nat),zk4 locs i ev t n=true->∀ j,i+j<locs->j<ev.length->∃ v,ev.getD j ev0=⟨-1,2,UInt8.ofNat (i+j),v,0,0,0⟩
 | [],_,_,_,_,_,_,h=>by simp at h
 | e::ev,i,t,n,h,j,hj,hl=>by
  unfold zk4 at h;rw [Gz (by omega:i<locs)] at h;by_cases he:e=⟨-1,2,UInt8.ofNat i,e.v,0,0,0⟩
  ·rw [Gz he] at h
   cases j with
   | zero=>exact⟨e.v,by rw [UR];exact he⟩
   | succ j =>
    obtain⟨v,hv⟩:=zk3 ev (i+1) t n h j (by omega) (by simpa using hl);exact⟨v,by rw [show i+(j+1)=i+1+j by omega];exact hv⟩
  ·rw [Gy he] at h;cases h
theorem zqp (ev:List Ev):zaR ev<=ev.length:=by
 unfold zaR
 induction ev with
 | nil=>exact Ge _
 | cons e ev ih =>
  rw [Km]
  split
  ·rw [Qs,Qs];omega
  ·exact Gg _
theorem zo5 {x:ExD} {locs:Nat} (h:j8 x.ev locs=true) (hl:locs<=x.ev.length) (h6:locs<=6):∀ l,l<locs->zdH x l≠[]:=by
 intro l hll he;obtain⟨v,hv⟩:=zk3 x.ev 0 0 0 h l (by omega) (by omega);have:l∈zdH x l:=by
  unfold zdH;rw [QV,Ur];refine⟨by omega,?_⟩;have h2:evA x l=⟨-1,2,UInt8.ofNat (0+l),v,0,0,0⟩:=hv;rw [h2,bAT,dE,dE];refine⟨rfl,?_⟩;show (UInt8.ofNat (0+l)).toNat=l;rw [UY,KH];exact QC (by omega)
 rw [he] at this
 cases this
abbrev zdv (x:ExD):List RelD:=[x.po,x.rf,x.co,x.dt,x.ct,x.rm]
theorem zsH (x:ExD) (q:OA) (c:Nat) {i:Nat} (hi:i<6):((exC x q c).drop (1+49*i)).take 49=zd ((zdv x).getD i x.po):=by
 have g:∀ {A T:List Value} {o:Nat} {r:RelD},A.length=o->exC x q c=A++(zd r++T)->((exC x q c).drop o).take 49=zd r:=fun {A T o r} hA hE=>by
  rw [hE,<- hA,Uo,Jg (by rw [ze];decide),JE (by rw [ze];decide)]
 match i,hi with
 | 0,_=>obtain⟨A,T,hA,hE⟩:=znn x q c [];exact g hA (by rw [<- hE,QM];rfl)
 | 1,_=>obtain⟨A,T,hA,hE⟩:=ztB x q c [];exact g hA (by rw [<- hE,QM];rfl)
 | 2,_=>obtain⟨A,T,hA,hE⟩:=ztD x q c [];exact g hA (by rw [<- hE,QM];rfl)
 | 3,_=>obtain⟨A,T,hA,hE⟩:=zno x q c [];exact g hA (by rw [<- hE,QM];rfl)
 | 4,_=>obtain⟨A,T,hA,hE⟩:=znp x q c [];exact g hA (by rw [<- hE,QM];rfl)
 | 5,_=>obtain⟨A,T,hA,hE⟩:=znm x q c [];exact g hA (by rw [<- hE,QM];rfl)
theorem zrZ (L:Nat) {k:Nat} (hk:k<6):((List.range 6).map (fun i=>Value.pointer (some ⟨L,0+(1+49*i),none⟩)))[k]?=some (.pointer (some ⟨L,0+(1+49*k),none⟩)):=by
 rw [KU,Kg hk];rfl
def okX (x:ExD) (r:RelD):Bool:=decide (r.n=x.ev.length)&&okR r
section
variable {c:Nat} {x:ExD} {q:OA} {w:Wd}
theorem zfS {X:Wd} {b:Nat} (fx:ExH X b x q c) {i:Nat} (hi:i<6):zw X ⟨b,0+(1+49*i),none⟩ (zd ((zdv x).getD i x.po)):=by
 have h:=zV (n:=1+49*i) (m:=49) (za fx);rw [show (exC x q c).toArray.toList=exC x q c from rfl,zsH x q c hi] at h;exact h
theorem ExV.rel (hv:ExV w x q) {i:Nat} (hi:i<6):zG ((zdv x).getD i x.po).to:=by
 match i,hi with
 | 0,_=>exact hv.po
 | 1,_=>exact hv.rf
 | 2,_=>exact hv.co
 | 3,_=>exact hv.dt
 | 4,_=>exact hv.ct
 | 5,_=>exact hv.rm
theorem zch (hv:ExV w x q) (hT:Tz64M w):CB 10 #[.agg (exC x q c).toArray] w (.bool (zS x)):=by
 refine qa 70 [.agg (exC x q c).toArray] (.c .p (.c .p (.c .p (.c .p (.c .p .p))))) Tryz.func10 ?_;obtain⟨L,hL⟩:=nm (w.heap.size);have hn:=hv.n;refine⟨Unit,fun _=>⟨[(1,At0 L)],[]⟩,fun _ X=>ExH X L x q c/\Bw w X,⟨(),⟨.cons (by rw [hL];rfl) .nil,rfl⟩,by rw [hL];exact zz w _,(zba w _)⟩,?_⟩;rintro _ X ⟨fx,hbX⟩;obtain⟨n,hnn⟩:=nm (zaR x.ev);refine⟨Unit,fun _=>⟨[(1,At0 L)],[]⟩,fun _ Y=>X=Y,?_,?_⟩
 ·refine⟨_,zc (za fx) (i:=0) rfl,biE (fun h=>?_) fun _=>?_⟩
  ·have h:(48:Int)<(x.ev.length:Nat):=dT h;omega
  exact⟨(),(cvE rfl rfl),rfl⟩
 rintro _ _ rfl;refine⟨Unit,fun _=>⟨[(1,At0 L),(3,i64 (n:Nat))],[]⟩,fun _ Y=>Bw X Y,?_,?_⟩
 ·refine⟨_,zc (za fx) (i:=0) rfl,cmo (zmg (hv.below hbX).ev (by omega)) ?_⟩;rintro e Y ⟨rfl,hbY⟩;rw [<- hnn];exact⟨(),(cvE rfl rfl),hbY⟩
 rintro _ Y hbY;have hvX:=hv.below hbX;have hnl:n<=x.ev.length:=by rw [hnn];exact zqp _
 have hbwY:=zst hbX hbY;have hr0:decide (x.ev.length<=48)=true:=Uu (by omega);have no:∀ {Z:Wd},Bw w Z->zS x=false->(Ending.returned (.bool false)=Ending.returned (.bool (zS x))/\Bw w Z):=fun {Z} hb h=>⟨rb h.symm,hb⟩;refine⟨Unit,fun _=>⟨[(1,At0 L),(3,i64 (n:Nat))],[]⟩,fun _ Z=>j8 x.ev n=true/\(1<=n/\n<=6)/\ExH Z L x q c/\Bw w Z,?_,?_⟩
 ·refine biE (fun h1=>?_) fun h1=>?_
  ·have h1:(n:Int)<1:=dT h1;refine brT (brT (no hbwY ?_));unfold zS;rw [<- hnn,Uj (by omega:¬ 1<=n),Ul,Uk]
  have h1:¬ (n:Int)<1:=dF h1;refine biE (fun h2=>?_) fun h2=>?_
  ·have h2:(6:Int)<(n:Int):=dT h2;refine brT (no hbwY ?_);unfold zS;rw [<- hnn,Uj (by omega:¬ n<=6),Ul,Uk,Uk]
  have h2:¬ (6:Int)<(n:Int):=dF h2;have hn1:decide (1<=n)=true:=Uu (by omega);have hn6:decide (n<=6)=true:=Uu (by omega);have fY:=zb hbY fx;refine⟨_,zc (za fY) (i:=0) rfl,cmo (zic (locs:=n) (hvX.below hbY).ev (by omega) (by omega)) ?_⟩;rintro e Z ⟨rfl,hbZ⟩;have hbwZ:=zst hbwY hbZ;refine biE (fun h3=>?_) fun h3=>?_
  ·have h3:j8 x.ev n=false:=by
    have h3:(!j8 x.ev n)=true:=h3;simpa using h3
   refine no hbwZ ?_;unfold zS;rw [<- hnn,h3,Ul,Uk,Uk,Uk]
  have h3:j8 x.ev n=true:=by
   have h3:(!j8 x.ev n)=false:=h3;simpa using h3
  exact⟨(),(cvE rfl rfl),h3,by omega,zb hbZ fY,hbwZ⟩
 rintro _ Z ⟨h3,⟨h1,h2⟩,fZ,hbwZ⟩;clear fx hbX hbY hbwY hvX;have hn1:decide (1<=n)=true:=Uu h1;have hn6:decide (n<=6)=true:=Uu h2;have hright:zS x=(zbh x&&(zb6 x.po (poR x.ev)&&(zcr x&&(zcC x n&&za9 x)))):=by
  unfold zS;rw [<- hnn,hr0,hn1,hn6,h3];rfl
 have hrels:zbh x=(zdv x).all (okX x):=rfl;refine⟨Unit,fun _=>⟨[(1,At0 L),(3,i64 (n:Nat))],[]⟩,fun _ U=>zbh x=true/\ExH U L x q c/\Bw w U,?_,?_⟩
 ·refine⟨⟨by decide,by decide,rfl⟩,(List.range 6).map (fun i=>Value.pointer (some ⟨L,0+(1+49*i),none⟩)),rfl,?_⟩;obtain⟨g,hg⟩:=nm (Z.heap.size);refine⟨Nat,fun k=>⟨[(1,At0 L),(3,i64 (n:Nat)),(32,.slice (some ⟨g,0,none⟩) 6 6),(33,i64 6),(34,i64 (k:Nat))],[]⟩,fun k U=>k<=6/\((zdv x).take k).all (okX x)=true/\U.heap[g]?=some (.cells ((List.range 6).map (fun i=>Value.pointer (some ⟨L,0+(1+49*i),none⟩))).toArray 82 (0,0))/\ExH U L x q c/\Bw w U,fun k=>6-k,0,
   ⟨.cons rfl (.cons rfl (.cons (by rw [hg];rfl) (.cons rfl (.cons rfl .nil)))),rfl⟩,⟨Gg _,rfl,by rw [hg];exact zz Z _,qm _ fZ,hbwZ.alloc hbwZ.size _⟩,?_⟩
  clear hg fZ hbwZ;rintro k U ⟨hk,hall,fg,fU,hbU⟩;dsimp only;refine biE (fun hc=>?_) fun hc=>?_
  ·have hc:(k:Int)<6:=dT hc;have hk6:k<6:=by omega
   obtain⟨r,hr⟩:=nm ((zdv x).getD k x.po);have hkl:k<(zdv x).length:=hk6;have htk:(zdv x).take (k+1)=(zdv x).take k++[r]:=by
    rw [tsg hkl,hr,gDe,gE hkl];rfl
   have hrw:zG r.to:=by rw [hr];exact hv.rel hk6
   have hcel:zw U ⟨L,0+(1+49*k),none⟩ (zd r):=by rw [hr];exact zfS fU hk6
   have dU:Bw U U.drew:=(Gj _ _).drew;have hrm:r∈zdv x:=by
    rw [hr,gDe,gE hkl];exact gM hkl
   have bad:∀ {Z:Wd},Bw w Z->okX x r=false->(Ending.returned (.bool false)=Ending.returned (.bool (zS x))/\Bw w Z):=fun {Z} hb h=>no hb (by
    have:zbh x=false:=by
     rw [hrels,KM];exact⟨r,hrm,by rw [h];decide⟩
    rw [hright,this];rfl)
   refine⟨k,rfl,hk6,?_⟩;refine⟨.pointer (some ⟨L,0+(1+49*k),none⟩),by
    have:=zc (za fg) (i:=k*1) (v := .pointer (some ⟨L,0+(1+49*k),none⟩)) (by
     rw [Gf];exact zrZ L hk6)
    exact this,?_⟩
   refine DrawE.ord [] [0,1,2,3,4,5,6,7,8,9,10,11,12,13,14] (by kernel_rfl) ⟨i64 r.n,zc (zt dU hcel) (i:=0) rfl,_,zc (za (hdr fU)) (i:=0) rfl,biE (fun h4=>?_) fun h4=>?_⟩
   ·have h4:(!decide (r.n=(x.ev.length:Int)))=true:=h4;have h4:¬ r.n=(x.ev.length:Int):=(by simpa using h4);exact brT (bad ((zst hbU dU)) (by unfold okX;rw [Uj h4];rfl))
   have h4:(!decide (r.n=(x.ev.length:Int)))=false:=h4;have h4:r.n=(x.ev.length:Int):=by simpa using h4
   refine⟨zd r,ze _,zt dU hcel,hlt (hdr fU),cmo (jA hrw) ?_⟩;rintro e V ⟨rfl,hbV⟩;refine⟨hbV,?_⟩;have hbV2:=hbU.trans ((dU.trans hbV).mono hbU.size);refine biE (fun h5=>?_) fun h5=>?_
   ·have h5:okR r=false:=by
     have h5:(!okR r)=true:=h5;simpa using h5
    exact bad hbV2 (by unfold okX;rw [h5,Uk])
   have h5:okR r=true:=by
    have h5:(!okR r)=false:=h5;simpa using h5
   refine nxI (by omega) ⟨k+1,(cvE rfl rfl),⟨hk6,?_,zb (dU.trans hbV) fg,zb (dU.trans hbV) fU,hbV2⟩,zdc (by omega)⟩;rw [htk,QL,hall];show (true&&(okX x r&&true))=true;unfold okX;rw [Uu h4,h5];rfl
  ·have hc:¬ (k:Int)<6:=dF hc;obtain rfl:k=6:=by omega
   exact⟨(),(cvE rfl rfl),hall,fU,hbU⟩
 rintro _ U ⟨hrr,fU,hbU⟩;rw [hrr,UA] at hright;have hall:∀ r∈zdv x,r.n=x.ev.length/\okR r=true:=fun r hr=>by
  rw [hrels,Qj] at hrr;have:=hrr r hr;unfold okX at this;rw [bAT,dE] at this;exact this
 have hrf:=hall x.rf (by simp);have hrm:=hall x.rm (by simp);have hvU:=hv.below hbU;have dU:Bw U U.drew:=(Gj _ _).drew;have hvD:=hvU.below dU;have hbD:=zst hbU dU;refine DrawE.ord [] [0,1,2,3,4,5,6,7,8,9,10,11,12,13,14,15,16] (by kernel_rfl) ⟨zd x.po,ze _,zfS (hdr fU) (i:=0) (by decide),hlt (hdr fU),_,zc (za (hdr fU)) (i:=0) rfl,cmo (zdO hvD.ev (by omega)) ?_⟩;rintro e V ⟨rfl,hbV⟩;refine⟨hbV,?_⟩;have hbV2:=zst hbD hbV;have fV:=zb hbV (hdr fU);have hvV:=hvD.below hbV;refine⟨_,fun w=>znr _ _ x.po (poR x.ev) w,biE (fun h4=>?_) fun h4=>?_⟩
 ·have h4:zb6 x.po (poR x.ev)=true:=h4;rw [h4,UA] at hright;refine cmo (zod fV hvV hrf.1 hrf.2 (hT.below hbV2)) ?_;rintro e T ⟨rfl,hbT⟩;refine⟨hbT,?_⟩;have hbT2:=zst hbV2 hbT;refine biE (fun h5=>?_) fun h5=>?_
  ·have h5:zcr x=true:=h5;rw [h5,UA] at hright;refine cmo (zoQ (locs:=n) (zb hbT fV) (hvV.below hbT) (by omega) (zo5 h3 hnl (by omega)) (hT.below hbT2)) ?_;rintro e R ⟨rfl,hbR⟩;refine⟨hbR,?_⟩;have hbR2:=zst hbT2 hbR;refine biE (fun h6=>?_) fun h6=>?_
   ·have h6:zcC x n=true:=h6;rw [h6,UA] at hright;refine cmo (zms (zb hbR (zb hbT fV)) ((hvV.below hbT).below hbR) hrm.1 hrm.2 (hT.below hbR2)) ?_;rintro e Q ⟨rfl,hbQ⟩;exact⟨hbQ,rb hright.symm,(zst hbR2 hbQ)⟩
   ·have h6:zcC x n=false:=h6;rw [h6,Ul] at hright;exact⟨rb hright.symm,hbR2⟩
  ·have h5:zcr x=false:=h5;rw [h5,Ul] at hright;exact brF ⟨rb hright.symm,hbT2⟩
 ·have h4:zb6 x.po (poR x.ev)=false:=h4;rw [h4,Ul] at hright;exact brF (brF ⟨rb hright.symm,hbV2⟩)
end
theorem zfI {a b:RelD} {f:Nat->Nat} (h:a.n=b.n->okR a=true->okR b=true->∀ i,i<48->f i<2^64):zG (comb a b f).1.to:=by
 unfold comb
 split
 ·rename_i hc;rw [bAT,bAT,dE] at hc;exact za0 fun i _ hi=>h hc.1 hc.2.1 hc.2.2 i hi
 ·exact fun i _=>(by show 0<2^64;decide)
theorem zih {a b:RelD} (ha:zG a.to) (hb:zG b.to):zG (zK a b).1.to:=zfI fun _ _ _ i hi=>KY (ha i hi) (hb i hi)
theorem zln {a b:RelD} (ha:zG a.to):zG (qK a b).1.to:=zfI fun _ _ _ i hi=>KE Ua (ha i hi)
theorem zcO {a b:RelD} (ha:zG a.to) (hb:zG b.to):zG (qf a b).1.to:=zfI fun _ h _ i hi=>by
 unfold zdi;exact zkU hb _ _ (by decide) fun j hj=>(zjm h ha hi j hj).2
theorem zow {a b:RelD} (ha:zG a.to):zG (zdU a b).1.to:=zfI fun _ _ _ i hi=>by
 rw [zd1];exact zd0 (ha i hi)
theorem zeh (k:Nat) (p:Nat->Bool):zgC (k+1) p=if p k=true then zgC k p|||2^k else zgC k p:=by
 unfold zgC;rw [QY,KT];rfl
theorem zfb (p:Nat->Bool):∀ k,k<=64->zgC k p<2^64
 | 0,_=>by show 0<_;decide
 | k+1,h=>by
  rw [zeh]
  split
  ·exact KY (zfb p k (by omega)) (z6 (by omega))
  ·exact zfb p k (by omega)
theorem zb8 {n:Nat} {p:Nat->Nat->Bool} (hn:n<=64):zG (zbe n p).to:=za0 fun i _ _=>zfb _ n hn
def jK (n:Nat) (p:Nat->Nat->Bool) (a k:Nat):Nat->Nat:=fun i=>if i<a then zgC n (p i) else if i=a then zgC k (p a) else 0
theorem zkb (n:Nat) (p:Nat->Nat->Bool) (a k:Nat):jK n p a k a=zgC k (p a):=by
 unfold jK;rw [Gy (by omega),Gz rfl]
theorem zob {n:Nat} {p:Nat->Nat->Bool} {a k:Nat} (h:p a k=true):upd (jK n p a k) a (jK n p a k a|||2^k)=jK n p a (k+1):=by
 funext i;by_cases hi:i=a
 ·subst hi;rw [ji,zkb,zkb,zeh,Gz h]
 ·rw [za3 _ _ hi];unfold jK;rw [Gy hi,Gy hi]
theorem zlU {n:Nat} {p:Nat->Nat->Bool} {a k:Nat} (h:p a k=false):jK n p a k=jK n p a (k+1):=by
 have e:zgC (k+1) (p a)=zgC k (p a):=by rw [zeh,Gy (by rw [h];decide)]
 funext i;unfold jK;rw [e]
theorem zlV (n:Nat) (p:Nat->Nat->Bool) (a:Nat):jK n p a n=jK n p (a+1) 0:=by
 funext i;unfold jK;by_cases h1:i<a
 ·rw [Gz h1,Gz (by omega)]
 ·by_cases h2:i=a
  ·subst h2;rw [Gy h1,Gz rfl,Gz (by omega)]
  ·rw [Gy h1,Gy h2,Gy (by omega)]
   split
   ·rfl
   ·rfl
theorem zlT (n:Nat) (p:Nat->Nat->Bool):jK n p 0 0=fun _=>0:=by
 funext i;unfold jK;rw [Gy (by omega)]
 split <;> rfl
theorem zoc (n:Nat) (p:Nat->Nat->Bool):jK n p n 0=(zbe n p).to:=by
 funext i;unfold jK zbe ju;show _=if i<n then _ else 0
 by_cases h:i<n
 ·rw [Gz h,Gz h]
 ·rw [Gy h,Gy h]
  split <;> rfl
theorem zoa {n:Nat} {p:Nat->Nat->Bool} {a k:Nat} (hn:n<=64) (hk:k<=64):zG (jK n p a k):=fun i _=>by
 unfold jK
 split
 ·exact zfb _ n hn
 ·split
  ·exact zfb _ k hk
  ·decide
theorem zs5 {s b:Nat}:decide ((((s/2^b&&&1:Nat):Nat):Int)=1)=s.testBit b:=by
 rw [zjJ]
 cases s.testBit b <;> rfl
section
variable {w:Wd}
theorem zU {b o a d:Nat} {r:RelD} (hc:∀ i,i<48->w.cell? ⟨b,o+1+i*1,none⟩=some (s64 (r.to i))) (hr:zG r.to) (ha:a<48) (hd:d<48) :
  Calls PG 117 #[.pointer (some ⟨b,o,none⟩),i64 (a:Nat),i64 (d:Nat)] w fun e w'=>e = .returned (.bool (zg r a d))/\w=w':=by
 refine zJ 17 [.pointer (some ⟨b,o,none⟩),i64 (a:Nat),i64 (d:Nat)] Tryz.func117 ?_;exact⟨a,rfl,ha,_,hc a ha,by omega,_,zgI (a:=r.to a) (k:=d) (by omega),_,jV (a:=r.to a/2^d) (b:=1) (KE (Nat.div_le_self _ _) (hr a ha)) (by decide),rb zs5,rfl⟩
theorem zfN {e:Ev}:Calls PG 166 #[.agg (evE.enc e).toArray] w fun r w'=>r = .returned (.bool (decide (e.k=1)||decide (e.k=2)))/\Bw w w':=by
 refine zJ 11 [.agg (evE.enc e).toArray] Tryz.func166 ?_;have f:=zz w (.cells (evE.enc e).toArray 158);have hb:Bw w (w.alloc (.cells (evE.enc e).toArray 158)):=zba w _;refine⟨u8 e.k,zc (za f) (i:=1) rfl,biE (fun h=>?_) fun h=>?_⟩
 ·have h:e.k=1:=qG.1 (dT h);exact⟨rb (by rw [Uu h];rfl),hb⟩
 ·have h:¬ e.k=1:=fun e2=>(dF h) (by rw [e2];rfl);refine⟨u8 e.k,zc (za f) (i:=1) rfl,rb ?_,hb⟩;rw [Uj h,Ux];exact QH.2 (qG (x:=e.k) (y:=2))
theorem zha {n g:Nat} {caps:Array Value} {p:Nat->Nat->Bool} (hn:n<=48) (hok:jP (sg 0) g=true)
  (hp:∀ a d X,a<n->d<n->Bw w X->Calls PG g (i64 (a:Nat)::i64 (d:Nat)::caps.toList).toArray X fun e Y=>e = .returned (.bool (p a d))/\Bw X Y) :
  CB 115 #[i64 n,.func (.func g) #[] caps] w (.agg (zd (zbe n p)).toArray):=by
 refine qa 34 [i64 n,.func (.func g) #[] caps] (.c .p (.c .p (.c .p .p))) Tryz.func115 ?_;obtain⟨L,hL⟩:=nm (w.heap.size);refine⟨Unit,fun _=>⟨[(0,i64 n),(1,.func (.func g) #[] caps),(4,At0 L)],[]⟩,fun _ X=>zN X L zp/\X.heap.size=L+1/\Bw w X,?_,?_⟩
 ·exact⟨(),⟨.cons rfl (.cons rfl (.cons (by rw [hL];rfl) .nil)),rfl⟩,by rw [hL];exact zz w _,by rw [hL];exact wz _ _,(zba w _)⟩
 rintro _ X ⟨f0,sX,hbX⟩;refine⟨Unit,fun _=>⟨[(0,i64 n),(1,.func (.func g) #[] caps),(4,At0 L),(5,At0 (L+1))],[]⟩,fun _ Y=>zN Y (L+1) ⟨n,jK n p 0 0⟩/\Y.heap.size=L+2/\Bw X Y,?_,?_⟩
 ·refine⟨zd ⟨n,fun _=>0⟩,by kernel_rfl,?_⟩;refine zn (X:=X) (v := .agg (zd ⟨n,fun _=>0⟩).toArray) k30 (ze _) (by kernel_rfl) (zD _) fun Z hbZ fZ sZ=>?_;rw [sX] at fZ sZ;exact⟨(),⟨.cons rfl (.cons rfl (.cons rfl (.cons (by rw [<- sX];rfl) .nil))),rfl⟩,by rw [zlT];exact fZ,sZ,hbZ⟩
 rintro _ Y ⟨f1,sY,hbY⟩;have hbwY:=zst hbX hbY;have f0:=zb hbY f0;refine⟨Unit,fun _=>⟨[(4,At0 L),(5,At0 (L+1))],[]⟩,fun _ Z=>zN Z (L+1) (zbe n p)/\zN Z L zp/\Bw w Z,?_,?_⟩
 ·refine⟨Nat,fun a=>⟨[(0,i64 n),(1,.func (.func g) #[] caps),(4,At0 L),(5,At0 (L+1)),(10,i64 n),(11,i64 (a:Nat))],[]⟩,fun a Z=>a<=n/\zN Z (L+1) ⟨n,jK n p a 0⟩/\zN Z L zp/\Bw w Z,fun a=>n-a,0,
   (cvE rfl rfl),⟨Gg _,f1,f0,hbwY⟩,?_⟩
  rintro a Z ⟨ha,f1,f0,hbZ⟩;dsimp only at f1 ⊢;refine biE (fun hc=>?_) fun hc=>?_
  ·have hc:(a:Int)<(n:Int):=dT hc;have han:a<n:=by omega
   refine⟨Nat,fun d=>⟨[(0,i64 n),(1,.func (.func g) #[] caps),(4,At0 L),(5,At0 (L+1)),(6,i64 (a:Nat)),(10,i64 n),(11,i64 (a:Nat)),(14,i64 n),(15,i64 (d:Nat))],[]⟩,fun d V=>d<=n/\zN V (L+1) ⟨n,jK n p a d⟩/\zN V L zp/\Bw w V,fun d=>n-d,0,
    (cvE rfl rfl),⟨Gg _,f1,f0,hbZ⟩,?_⟩
   clear f1 f0 hbZ;rintro d V ⟨hd,f1,f0,hbV⟩;dsimp only at f1 ⊢;refine biE (fun hc=>?_) fun hc=>?_
   ·have hc:(d:Int)<(n:Int):=dT hc;have hdn:d<n:=(by omega);refine zhV hok (hp a d V han hdn hbV) ?_;rintro e U ⟨rfl,hbU⟩;refine⟨_,rfl,?_⟩;have f1:=zb hbU f1;have f0:=zb hbU f0;have hbU2:=zst hbV hbU;have sU:=hbU2.size;refine biE (fun h=>?_) fun h=>?_
    ·have h:p a d=true:=h;have hR:RelAt U (L+1) 0 30 [] [] ⟨n,jK n p a d⟩:=⟨rfl,by simpa using f1⟩;have dU:Bw U U.drew:=(Gj _ _).drew;have ha48:a<48:=(by omega);refine DrawE.ord [9] [0,1,2,3,4,5,6,7,8,9] (by kernel_rfl) ⟨a,rfl,ha48,s64 (jK n p a d a),(hR.same (Y:=U.drew) rfl).cell ha48,by omega,_,jU (e:=d) (by omega),_,zaj (zoa (by omega) (by omega) a ha48) (z6 (by omega)),a,rfl,ha48,zy k27 (hR.same (Y:=U.drew) rfl).cells (o:=0+1+a*1) (v:=s64 (jK n p a d a|||2^d)) rfl rfl (by rw [hR.len];omega) rfl fun S fS gS sS=>?_⟩;rw [hR.set ha48] at fS;have e5:upd (jK n p a d) a (jK n p a d a|||2^d)=jK n p a (d+1):=zob h;dsimp only at fS;rw [e5] at fS;have gS2:U.grownBy S (some (L+1)):=zh (zi dU) gS;exact nxI (by omega) ⟨d+1,(cvE rfl rfl),⟨hdn,by simpa using fS,(gS2.block L (hlt f0) (by simp)).trans f0,hbU2.trans (zq gS2 sU (by omega))⟩,zdc (by omega)⟩
    ·have h:p a d=false:=h;exact nxI (by omega) ⟨d+1,(cvE rfl rfl),⟨hdn,by rw [<- zlU h];exact f1,f0,hbU2⟩,zdc (by omega)⟩
   ·have hc:¬ (d:Int)<(n:Int):=dF hc;obtain rfl:d=n:=(by omega);exact nxI (by omega) ⟨a+1,(cvE rfl rfl),⟨han,by rw [<- zlV];exact f1,f0,hbV⟩,zdc (by omega)⟩
  ·have hc:¬ (a:Int)<(n:Int):=dF hc;obtain rfl:a=n:=by omega
   rw [zoc] at f1;exact⟨(),(cvE rfl rfl),f1,f0,hbZ⟩
 rintro _ Z ⟨f1,f0,hbZ⟩;exact⟨zd (zbe n p),ze _,za f1,hlt f1,zr (v := .agg (zd (zbe n p)).toArray) k30 f0 (ze _) (ze _) (zD _) ⟨zd (zbe n p),ze _,za (zm f0),rfl,zj hbZ (by omega) _⟩⟩
def zt2:Enc RelD:=⟨zd,49,ze,by decide,fun a u hu=>Qj.1 (zD a) u hu⟩
theorem zc6 {l:List RelD}:∀ {r:RelD},zG r.to->(∀ o∈l,zG o.to)->zG (z8 r l).to:=by
 induction l with
 | nil=>exact fun h _=>h
 | cons o l ih=>exact fun h hl=>ih (zih h (hl o Kz)) fun x hx=>hl x (JW _ hx)
theorem zi0 {r:RelD} {l:List RelD} {pm:OA} {cm:Nat} (hr:zG r.to) (hl:SlR zt2 w pm l) (hw:∀ o∈l,zG o.to) (hn:l.length<=1000) :
  CB 119 #[.agg (zd r).toArray,.slice pm l.length cm] w (.agg (zd (z8 r l)).toArray):=by
 refine qa 21 [.agg (zd r).toArray,.slice pm l.length cm] (.c .p (.c .p .p)) Tryz.func119 ?_;obtain⟨L,hL⟩:=nm (w.heap.size);refine⟨Unit,fun _=>⟨[(1,.slice pm l.length cm),(2,At0 L),(4,At0 (L+1))],[]⟩,fun _ X=>zN X L r/\zN X (L+1) zp/\Bw w X,?_,?_⟩
 ·have s1:=wz w (.cells (zd r).toArray 30);have h2:=zz (w.alloc (.cells (zd r).toArray 30)) (.cells (zd zp).toArray 30);rw [s1] at h2;refine⟨(),⟨.cons rfl (.cons (by rw [hL];rfl) (.cons (by rw [hL,<- s1];rfl) .nil)),rfl⟩,by rw [hL];exact qm _ (zz w _),by rw [hL];exact h2,((zba w _)).alloc (by simp) _⟩
 rintro _ X ⟨f0,f1,hbX⟩;refine⟨Unit,fun _=>⟨[(2,At0 L),(4,At0 (L+1))],[]⟩,fun _ Z=>zN Z L (z8 r l)/\zN Z (L+1) zp/\Bw w Z,?_,?_⟩
 ·refine⟨Nat,fun k=>⟨[(2,At0 L),(4,At0 (L+1)),(7,.slice pm l.length cm),(8,i64 l.length),(9,i64 (k:Nat))],[]⟩,fun k Z=>k<=l.length/\zN Z L (z8 r (l.take k))/\zN Z (L+1) zp/\Bw w Z,fun k=>l.length-k,0,
   (cvE rfl rfl),⟨Gg _,f0,f1,hbX⟩,?_⟩
  clear f0 f1 hbX;rintro k Z ⟨hk,f0,f1,hbZ⟩;dsimp only;have hZs:=hbZ.size;refine biE (fun hc=>?_) fun hc=>?_
  ·have hc:(k:Int)<(l.length:Int):=dT hc;have hkl:k<l.length:=by omega
   obtain⟨b,o,rfl,hb,hat⟩:=hl.at hkl;obtain⟨t,ht⟩:∃ t,l[k]=t:=⟨_,rfl⟩;have htm:t∈l:=by rw [<- ht];exact gM hkl
   have htk:z8 r (l.take (k+1))=(zK (z8 r (l.take k)) t).1:=by
    unfold z8;rw [tsg hkl,ht,KT];rfl
   have hut:zG (z8 r (l.take k)).to:=zc6 hr fun o ho=>hw o (JZ ho);refine⟨k,rfl,hkl,zd t,ze _,by rw [<- ht];exact zt hbZ (hat k hkl),nL hb hZs,zn (X:=Z) (v := .agg (zd t).toArray) k30 (ze _) (by kernel_rfl) (zD _) fun Y hbY fY sY=>?_⟩;have fY:zN Y Z.heap.size t:=fY;have f0:=zb hbY f0;have f1:=zb hbY f1;refine⟨zd (z8 r (l.take k)),ze _,za f0,hlt f0,zd t,ze _,za fY,hlt fY,cmo (znI hut (hw t htm)) ?_⟩;rintro e V ⟨rfl,hbV⟩;have f0:=zb hbV f0;have f1:=zb hbV f1;refine zr (v := .agg (zd (zK (z8 r (l.take k)) t).1).toArray) k30 f0 (ze _) (ze _) (zD _) (nxI (by omega) ?_);have hbV2:=(hbZ.trans (hbY.mono hZs)).trans (hbV.mono (by have:=hbY.size;omega));exact⟨k+1,(cvE rfl rfl),⟨hkl,by rw [htk];exact zm f0,(zo (by omega)).trans f1,zj hbV2 (by omega) _⟩,zdc (by omega)⟩
  ·have hc:¬ (k:Int)<(l.length:Int):=dF hc;obtain rfl:k=l.length:=by omega
   rw [Qw] at f0;exact⟨(),(cvE rfl rfl),f0,f1,hbZ⟩
 rintro _ Z ⟨f0,f1,hbZ⟩;exact⟨zd (z8 r l),ze _,za f0,hlt f0,zr (v := .agg (zd (z8 r l)).toArray) k30 f1 (ze _) (ze _) (zD _) ⟨zd (z8 r l),ze _,za (zm f1),rfl,zj hbZ (by omega) _⟩⟩
end
section
variable {w:Wd} {b c:Nat} {x:ExD} {q:OA}
theorem jq {X:Wd} (fx:zw X ⟨b,0,none⟩ (exC x q c)):X.cell? ⟨b,0+0,none⟩=some (.slice q x.ev.length c):=zc fx (i:=0) rfl
theorem zga {X:Wd} {o:Nat} {r:RelD} (fx:zw X ⟨b,0,none⟩ (exC x q c)) (h:∃ A T,A.length=o/\exC x q c=A++(zd r++T)):∀ i,i<48->X.cell? ⟨b,o+1+i*1,none⟩=some (s64 (r.to i)):=by
 intro i hi;obtain⟨A,T,hA,hE⟩:=h;have:(exC x q c)[o+1+i*1]?=some (s64 (r.to i)):=by
  rw [hE,Gf,UI,jd hA,Jp (by rw [ze];omega),zff r hi]
 have h2:=zc fx this;rw [UY] at h2;exact h2
theorem zqF (x:ExD) (q:OA) (c:Nat):∃ A T,A.length=1/\exC x q c=A++(zd x.po++T):=by
 obtain⟨A,T,hA,hE⟩:=znn x q c [];exact⟨A,T,hA,by rw [<- hE,QM]⟩
theorem zuC (x:ExD) (q:OA) (c:Nat):∃ A T,A.length=148/\exC x q c=A++(zd x.dt++T):=by
 obtain⟨A,T,hA,hE⟩:=zno x q c [];exact⟨A,T,hA,by rw [<- hE,QM]⟩
theorem zuD (x:ExD) (q:OA) (c:Nat):∃ A T,A.length=197/\exC x q c=A++(zd x.ct++T):=by
 obtain⟨A,T,hA,hE⟩:=znp x q c [];exact⟨A,T,hA,by rw [<- hE,QM]⟩
theorem zqE (x:ExD) (q:OA) (c:Nat):∃ A T,A.length=246/\exC x q c=A++(zd x.rm++T):=by
 obtain⟨A,T,hA,hE⟩:=znm x q c [];exact⟨A,T,hA,by rw [<- hE,QM]⟩
theorem zjL (x:ExD) (i:Nat):(decide ((evA x i).k=1)||decide ((evA x i).k=2))=zaf x i:=rfl
theorem zbG {X:Wd} (hv:SlR evE X q x.ev) {a:Nat} (ha:a<x.ev.length):∃ bq oq,q=some ⟨bq,oq,none⟩/\bq<X.heap.size/\zw X ⟨bq,oq+a*7,none⟩ (evE.enc (evA x a)):=zcd hv ha
theorem zlM {a d:Nat} (fx:zw w ⟨b,0,none⟩ (exC x q c)) (hv:SlR evE w q x.ev) (ha:a<x.ev.length) (hd:d<x.ev.length) :
  CB 118 #[At0 b,i64 (a:Nat),i64 (d:Nat)] w (.bool (zaJ x a d)):=by
 refine qa 44 [At0 b,i64 (a:Nat),i64 (d:Nat)] (.c .p .p) Tryz.func118 ?_;refine⟨Unit,fun _=>⟨[(0,At0 b),(1,i64 (a:Nat)),(2,i64 (d:Nat))],[]⟩,fun _ X=>w=X,⟨(),(cvE rfl rfl),rfl⟩,?_⟩;rintro _ _ rfl;obtain⟨bq,oq,hqe,hb,hat⟩:=zbG hv ha;obtain⟨bq2,oq2,hqe2,hb2,hat2⟩:=zbG hv hd;rw [hqe] at hqe2;simp only [KZ,Uw,Gr] at hqe2;rw [<- hqe2.1,<- hqe2.2] at hat2;subst hqe;have dw:Bw w w.drew:=(Gj _ _).drew;refine DrawE.ord [] [0,1,2,3,4,5,6,7,8,9,10,11,12,13,14,15,16,17,18,19,20,21,22,23,24,25,26,27,28,29,30,31,32,33,34,35,36,37] (by kernel_rfl) ⟨_,jq (zt dw fx),a,rfl,ha,evE.enc (evA x a),rfl,zt dw hat,nL hb dw.size,cmo zfN ?_⟩;rintro e X ⟨rfl,hbX⟩;refine⟨hbX,?_⟩;have bX:=dw.trans hbX;rw [zjL];refine biE (fun h1=>?_) fun h1=>?_
 ·have h1:zaf x a=true:=h1;refine⟨_,jq (zt bX fx),d,rfl,hd,evE.enc (evA x d),rfl,zt bX hat2,nL hb bX.size,cmo zfN ?_⟩;rintro e Y ⟨rfl,hbY⟩;refine⟨hbY,?_⟩;have bY:=zst bX hbY;rw [zjL];refine biE (fun h2=>?_) fun h2=>?_
  ·have h2:zaf x d=true:=h2;refine⟨_,jq (zt bY fx),a,rfl,ha,u8 (evA x a).l,by have:=zc (zt bY hat) (i:=2) (v:=u8 (evA x a).l) rfl;exact this,_,jq (zt bY fx),d,rfl,hd,u8 (evA x d).l,by have:=zc (zt bY hat2) (i:=2) (v:=u8 (evA x d).l) rfl;exact this,rb ?_,bY⟩;unfold zaJ;rw [h1,h2,UA,UA];exact QH.2 qG
  ·have h2:zaf x d=false:=h2;refine⟨rb ?_,bY⟩;unfold zaJ;rw [h1,h2];rfl
 ·have h1:zaf x a=false:=h1;refine brF ⟨rb ?_,bX⟩;unfold zaJ;rw [h1];rfl
end
structure ScnV (X:Wd) (b:Nat) (x:ExD) (q:OA) (c:Nat) (f l s:RelD):Prop where
 h:X.heap[b]?=some (.cells (exC x q c++(zd f++(zd l++zd s))).toArray 263 (0,0))
 v:ExV X x q
 wf:zG f.to
 wl:zG l.to
 ws:zG s.to
section
variable {w:Wd} {b c:Nat} {x:ExD} {q:OA} {f l s:RelD}
theorem ScnV.below {X Y:Wd} (h:ScnV X b x q c f l s) (hb:Bw X Y):ScnV Y b x q c f l s:=⟨zb hb h.h,h.v.below hb,h.wf,h.wl,h.ws⟩
theorem ScnV.cells {X:Wd} (h:ScnV X b x q c f l s):zw X ⟨b,0,none⟩ (exC x q c):=by
 have:=zV (n:=0) (m:=333) (za h.h);have e:((exC x q c++(zd f++(zd l++zd s))).toArray.toList.drop 0).take 333=exC x q c:=by
  show (exC x q c++_).take 333=_;rw [Jg (by rw [zI];decide),JE (by rw [zI];decide)]
 rw [e] at this;exact this
theorem ScnV.at {X:Wd} {o:Nat} {r:RelD} (h:ScnV X b x q c f l s) (hr:∃ A T,A.length=o/\exC x q c++(zd f++(zd l++zd s))=A++(zd r++T)):∀ i,i<48->X.cell? ⟨b,o+1+i*1,none⟩=some (s64 (r.to i)):=by
 intro i hi;obtain⟨A,T,hA,hE⟩:=hr;have:(exC x q c++(zd f++(zd l++zd s)))[o+1+i*1]?=some (s64 (r.to i)):=by
  rw [hE,Gf,UI,jd hA,Jp (by rw [ze];omega),zff r hi]
 have h2:=zc (za h.h) this;rw [UY] at h2;exact h2
theorem ScnV.full {X:Wd} (h:ScnV X b x q c f l s):∀ i,i<48->X.cell? ⟨b,0+333+1+i*1,none⟩=some (s64 (f.to i)):=h.at ⟨exC x q c,zd l++zd s,zI _ _ _,rfl⟩
theorem ScnV.loads {X:Wd} (h:ScnV X b x q c f l s):∀ i,i<48->X.cell? ⟨b,0+382+1+i*1,none⟩=some (s64 (l.to i)):=h.at ⟨exC x q c++zd f,zd s,by rw [lap,zI,ze],by rw [KO]⟩
theorem ScnV.stores {X:Wd} (h:ScnV X b x q c f l s):∀ i,i<48->X.cell? ⟨b,0+431+1+i*1,none⟩=some (s64 (s.to i)):=h.at ⟨exC x q c++(zd f++zd l),[],by rw [lap,lap,zI,ze,ze],by simp only [KO,QM]⟩
theorem zeI {a:Nat} (h:ScnV w b x q c f l s) (ha:a<x.ev.length):Calls PG 210 #[At0 b,i64 (a:Nat)] w fun e w'=>e = .returned (.bool (isR x a))/\w=w':=by
 refine zJ 15 [At0 b,i64 (a:Nat)] Tryz.func210 ?_;obtain⟨bq,oq,hqe,hb,hat⟩:=zbG h.v.ev ha;have fx:=h.cells;subst hqe;exact⟨_,jq fx,a,rfl,ha,u8 (evA x a).k,by have:=zc hat (i:=1) (v:=u8 (evA x a).k) rfl;exact this,rb (QH.2 (qG (x:=(evA x a).k) (y:=1))),rfl⟩
theorem jy {a:Nat} (h:ScnV w b x q c f l s) (ha:a<x.ev.length):Calls PG 211 #[At0 b,i64 (a:Nat)] w fun e w'=>e = .returned (.bool (isW x a))/\w=w':=by
 refine zJ 15 [At0 b,i64 (a:Nat)] Tryz.func211 ?_;obtain⟨bq,oq,hqe,hb,hat⟩:=zbG h.v.ev ha;have fx:=h.cells;subst hqe;exact⟨_,jq fx,a,rfl,ha,u8 (evA x a).k,by have:=zc hat (i:=1) (v:=u8 (evA x a).k) rfl;exact this,rb (QH.2 (qG (x:=(evA x a).k) (y:=2))),rfl⟩
theorem zdI {a:Nat} {md:UInt8} (h:ScnV w b x q c f l s) (ha:a<x.ev.length):Calls PG 215 #[At0 b,i64 (a:Nat),u8 md] w fun e w'=>e = .returned (.bool (zO x a md))/\w=w':=by
 refine zJ 30 [At0 b,i64 (a:Nat),u8 md] Tryz.func215 ?_;obtain⟨bq,oq,hqe,hb,hat⟩:=zbG h.v.ev ha;have fx:=h.cells;subst hqe;refine⟨_,jq fx,a,rfl,ha,u8 (evA x a).m,by have:=zc hat (i:=4) (v:=u8 (evA x a).m) rfl;exact this,biE (fun h1=>?_) fun h1=>?_⟩
 ·have h1:(evA x a).m=md:=qG.1 (dT h1);exact⟨rb (by unfold zO;rw [Uu h1];rfl),rfl⟩
 ·have h1:¬ (evA x a).m=md:=fun e=>(dF h1) (by rw [e]);exact⟨_,jq fx,a,rfl,ha,u8 (evA x a).m,by have:=zc hat (i:=4) (v:=u8 (evA x a).m) rfl;exact this,rb (by unfold zO;rw [Uj h1,Ux];exact QH.2 (qG (x:=(evA x a).m) (y:=3))),rfl⟩
theorem znA {a d:Nat} (h:ScnV w b x q c f l s) (ha:a<x.ev.length) (hd:d<x.ev.length):Calls PG 212 #[At0 b,i64 (a:Nat),i64 (d:Nat)] w fun e w'=>e = .returned (.bool (jF x f a d))/\w=w':=by
 refine zJ 23 [At0 b,i64 (a:Nat),i64 (d:Nat)] Tryz.func212 ?_;have hn:=h.v.n;refine cmo (zU h.full h.wf (by omega) (by omega)) ?_;rintro e _ ⟨rfl,rfl⟩;refine biE (fun h1=>?_) fun h1=>?_
 ·have h1:zg f a d=true:=h1;exact brT ⟨rb (by unfold jF;rw [h1];rfl),rfl⟩
 have h1:zg f a d=false:=h1;refine cmo (zdI (md:=3) h ha) ?_;rintro e _ ⟨rfl,rfl⟩;refine biE (fun h2=>?_) fun h2=>?_
 ·have h2:zO x a 3=true:=h2;exact⟨rb (by unfold jF;rw [h1,h2];rfl),rfl⟩
 have h2:zO x a 3=false:=h2;refine cmo (zdI (md:=3) h hd) ?_;rintro e _ ⟨rfl,rfl⟩;exact⟨rb (by unfold jF;rw [h1,h2];rfl),rfl⟩
end
abbrev orG (l:List Nat):Nat:=l.foldl (fun s i=>s|||2^i) 0
theorem zpU (l:List Nat) (i:Nat):orG (l++[i])=orG l|||2^i:=by
 unfold orG;rw [KT];rfl
theorem zm5:∀ (l:List Nat) (s:Nat),s<2^64->(∀ i∈l,i<64)->l.foldl (fun s i=>s|||2^i) s<2^64
 | [],s,h,_=>h
 | i::l,s,h,hl=>zm5 l (s|||2^i) (KY h (z6 (hl i Kz))) fun j hj=>hl j (JW _ hj)
theorem zl2 {l:List Nat} (hl:∀ i∈l,i<64):orG l<2^64:=zm5 l 0 (by decide) hl
section
variable {w:Wd}
theorem zwU {p:OA} {cp:Nat} {l:List Nat} (hl:SlR zE w p l) (h64:∀ i∈l,i<64) (hn:l.length<=1000):Calls PG 150 #[.slice p l.length cp] w fun e w'=>e = .returned (.tuple #[s64 (orG l),i64 0])/\w=w':=by
 refine zJ 25 [.slice p l.length cp] Tryz.func150 ?_;refine⟨Nat,fun k=>⟨[(4,s64 (orG (l.take k))),(7,.slice p l.length cp),(8,i64 l.length),(9,i64 (k:Nat))],[]⟩,fun k X=>k<=l.length/\w=X,fun k=>l.length-k,0,(cvE rfl rfl),⟨Gg _,rfl⟩,?_⟩;rintro k _ ⟨hk,rfl⟩;dsimp only;refine biE (fun hc=>?_) fun hc=>?_
 ·have hc:(k:Int)<(l.length:Int):=dT hc;have hkl:k<l.length:=by omega
  obtain⟨b,o,rfl,hb,hat⟩:=hl.at hkl;obtain⟨t,ht⟩:∃ t,l[k]=t:=⟨_,rfl⟩;have ht64:=h64 t (by rw [<- ht];exact gM hkl);have htk:orG (l.take (k+1))=orG (l.take k)|||2^t:=by rw [tsg hkl,ht,zpU]
  refine⟨k,rfl,hkl,i64 t,by have:=zc (hat k hkl) (i:=0) (v:=i64 t) (by rw [ht];rfl);exact this,biE (fun h=>?_) fun _=>?_⟩
  ·have h:(t:Int)<0:=dT h;omega
  refine biE (fun h=>?_) fun _=>?_
  ·have h:(64:Int)<=(t:Nat):=dT h;omega
  exact⟨by omega,_,jU (e:=t) (by omega),_,zaj (zl2 fun i hi=>h64 i (JZ hi)) (z6 ht64),nxI (by omega) ⟨k+1,⟨.cons (by show _=some (s64 (orG (l.take (k+1))));rw [htk];rfl) (.cons rfl (.cons rfl (.cons rfl .nil))),rfl⟩,⟨hkl,rfl⟩,zdc (by omega)⟩⟩
 ·have hc:¬ (k:Int)<(l.length:Int):=dF hc;obtain rfl:k=l.length:=by omega
  rw [Qw];exact⟨rfl,rfl⟩
end
section
variable {b c:Nat} {x:ExD} {q:OA} {w:Wd}
theorem qi {X:Wd} (fx:ExH X b x q c) {i:Nat} (hi:i<6) {o:Nat} (ho:o=1+49*i):zw X ⟨b,0+o,none⟩ (zd ((zdv x).getD i x.po)):=by
 rw [ho];exact zfS fx hi
theorem zmh (hv:ExV w x q) (hT:Tz64M w):zG (qE x.rf).to/\zG (frM x).to:=by
 have h1:zG (qE x.rf).to:=by
  unfold qE
  split
  ·rename_i h;intro i hi;refine Qz fun hge=>?_;obtain⟨j,hj1,hj2⟩:=Ja hge;rw [show ((⟨x.rf.n,zaO x.rf.to x.rf.n.toNat⟩:RelD).to i)=zaO x.rf.to x.rf.n.toNat i from rfl,zgh,bAT,dE] at hj2;have h48:=(qT h).2.1;omega
  ·exact fun i _=>(by show 0<2^64;decide)
 exact⟨h1,zcO h1 hv.co⟩
theorem zwC (fx:ExH w b x q c) (hv:ExV w x q) (hT:Tz64M w):CB 114 #[At0 b] w (.agg (zd (frM x)).toArray):=by
 refine qa 19 [At0 b] (.c .p (.c .p .p)) Tryz.func114 ?_;obtain⟨L,hL⟩:=nm (w.heap.size);obtain⟨wb,wf⟩:=zmh hv hT;refine⟨Unit,fun _=>⟨[(0,At0 b),(2,At0 L)],[]⟩,fun _ X=>zN X L zp/\Bw w X,⟨(),⟨.cons rfl (.cons (by rw [hL];rfl) .nil),rfl⟩,by rw [hL];exact zz w _,(zba w _)⟩,?_⟩;rintro _ X ⟨f0,hbX⟩;refine⟨Nat,fun F=>⟨[(2,At0 L),(3,At0 F)],[]⟩,fun F Z=>zN Z F (frM x)/\zN Z L zp/\Bw w Z,?_,?_⟩
 ·have dX:Bw X X.drew:=(Gj _ _).drew;have fX:=hdr (zb hbX fx);have hba:∀ (A:Wd) (o:Obj),Bw A (A.alloc o):=fun A o=>(zba _ _);have put:∀ (W:Wd) (b3:Nat),Bw X W->zN W b3 zp->X.heap.size<=b3->∀ {K:Wd->Prop},(∀ V,(zN V b3 (frM x)/\zN V L zp/\Bw w V)->K V) ->
    SatR ((storeVar 30 ⟨b3,0,none⟩ (.agg (zd (frM x)).toArray)).run PG W) fun _ w'=>K w':=by
   intro W b3 hW f3 g3 K k;refine zr (v := .agg (zd (frM x)).toArray) k30 f3 (ze _) (ze _) (zD _) ?_;have hL2:=hlt f0;exact k _ ⟨zm f3,(zo (by omega)).trans (zb hW f0),zj ((zst hbX hW)) (by have:=hbX.size;omega) _⟩
  refine DrawE.treeQ [14] (.op 0 (.op 1 (.op 2 (.op 3 (.op 5 (.op 6 (.op 7 (.op 8 (.alt (.op 13 (.op 4 (.op 9 (.op 10 (.op 11 (.op 12 (.op 14 (.op 15 (.nil))))))))) (.op 4 (.alt (.op 13 (.op 9 (.op 10 (.op 11 (.op 12 (.op 14 (.op 15 (.nil)))))))) (.op 9 (.op 10 (.op 11 (.op 12 (.op 13 (.op 14 (.op 15 (.nil))))))))))))))))))) (by kernel_rfl) ⟨zd x.rf,ze _,qi fX (i:=1) (by decide) rfl,hlt fX,zd x.co,ze _,qi fX (i:=2) (by decide) rfl,hlt fX,Gp ?_ ?_⟩
  ·refine⟨hba _ _,?_⟩;have b1:=dX.alloc (Ge _) (.cells (zd zp).toArray 30);refine cmo (zgj hv.rf (hT.below ((zst hbX b1)))) ?_;rintro e Y ⟨rfl,hbY,_⟩;refine⟨hbY,?_⟩;have b2:=zst b1 hbY;refine cmo (zcg wb hv.co (hT.below ((zst hbX b2)))) ?_;rintro e Z ⟨rfl,hbZ⟩;exact⟨hbZ,put Z X.heap.size ((zst b2 hbZ)) (zb hbZ (zb hbY (zz X.drew _))) (Ge _) (fun V hV=>⟨X.heap.size,(cvE rfl rfl),hV⟩)⟩
  refine cmo (zgj hv.rf (hT.below ((zst hbX dX)))) ?_;rintro e Y ⟨rfl,hbY,_⟩;refine⟨hbY,?_⟩;have b1:=zst dX hbY;refine Gp ?_ ?_
  ·refine⟨hba _ _,?_⟩;have b2:=b1.alloc b1.size (.cells (zd zp).toArray 30);refine cmo (zcg wb hv.co (hT.below ((zst hbX b2)))) ?_;rintro e Z ⟨rfl,hbZ⟩;exact⟨hbZ,put Z Y.heap.size ((zst b2 hbZ)) (zb hbZ (zz Y _)) b1.size (fun V hV=>⟨Y.heap.size,(cvE rfl rfl),hV⟩)⟩
  ·refine cmo (zcg wb hv.co (hT.below ((zst hbX b1)))) ?_;rintro e Z ⟨rfl,hbZ⟩;refine⟨hbZ,?_⟩;have b2:=zst b1 hbZ;exact⟨hba _ _,put _ Z.heap.size (b2.alloc b2.size _) (zz Z _) b2.size (fun V hV=>⟨Z.heap.size,(cvE rfl rfl),hV⟩)⟩
 rintro F Z ⟨f1,f0,hbZ⟩;exact⟨zd (frM x),ze _,za f1,hlt f1,zr (v := .agg (zd (frM x)).toArray) k30 f0 (ze _) (ze _) (zD _) ⟨zd (frM x),ze _,za (zm f0),rfl,zj hbZ (by omega) _⟩⟩
end
structure RelOk (n:Nat) (r:RelD):Prop where
 n:r.n=n
 ok:okR r=true
 w:zG r.to
section
variable {n:Nat} {r a b:RelD}
theorem RelOk.le (h:RelOk n r):n<=48:=by
 have:=(qT h.ok).2.1;have:=h.n;omega
theorem RelOk.bit (h:RelOk n r) {i j:Nat} (hi:i<48) (hb:zg r i j=true):i<n/\j<n:=by
 have:=zjn h.ok h.w hi hb;have:=h.n;omega
theorem zud (hn:r.n=n) (h48:n<=48) (h:∀ i j,i<48->zg r i j=true->i<n/\j<n):okR r=true:=by
 unfold okR;rw [bAT,bAT,dE,dE,Qj];refine⟨by omega,by omega,fun i hi=>?_⟩;have hi:=Ur.1 hi;unfold zb4;rw [bAT,QI,dE,dE,dE];refine⟨?_,?_⟩
 ·rw [zd1,zbT];apply Ka;intro j;rw [QD];by_cases hj:j<64
  ·rw [zcV (jE _) hj,zec (by omega) (by omega) hj]
   cases hb:(r.to i).testBit j with
   | false=>rfl
   | true =>
    have:=(h i j hi hb).2;rw [Uu (by omega)];rfl
  ·have:=JF (nL (KE (show jC (r.to i) (zaH r.n)<=_ from Qx) (show 18446744073709551615-zaH r.n<2^64 by omega)) (Kb (show 0<2 by decide) (show 64<=j by omega)));exact this
 ·by_cases hin:i<n
  ·exact .inl (by omega)
  ·refine .inr (Ka fun j=>?_);rw [QD]
   cases hb:(r.to i).testBit j with
   | false=>rfl
   | true=>exact GA (h i j hi hb).1 hin
theorem RelOk.of (hn:r.n=n) (h48:n<=48) (h:∀ i j,i<48->zg r i j=true->i<n/\j<n) (hw:zG r.to):RelOk n r:=⟨hn,zud hn h48 h,hw⟩
theorem zja (p:Nat->Bool):∀ k j,(zgC k p).testBit j=(decide (j<k)&&p j)
 | 0,j=>by
  show (0:Nat).testBit j=_;simp
 | k+1,j=>by
  rw [zeh]
  split
  ·rename_i h;rw [Ut,zja p k j,zdd];by_cases e:j=k
   ·subst e;simp [h]
   ·rw [Uj e,Uz];congr 1;exact QH.2 (by omega)
  ·rename_i h;rw [zja p k j];by_cases e:j=k
   ·subst e;have:p j=false:=(by simpa using h);rw [this,Uk,Uk]
   ·congr 1;exact QH.2 (by omega)
theorem zaz {f:Nat->Nat} {i j:Nat}:zg (ju n f) i j=(decide (i<n)&&(f i).testBit j):=by
 unfold zg ju;dsimp only
 split
 ·rename_i h;rw [Uu h];rfl
 ·rename_i h;rw [Uj h,QD];rfl
theorem zcR {p:Nat->Nat->Bool} {i j:Nat}:zg (zbe n p) i j=(decide (i<n)&&(decide (j<n)&&p i j)):=by
 unfold zbe;rw [zaz,zja]
theorem RelOk.pick (h:n<=48) (p:Nat->Nat->Bool):RelOk n (zbe n p):=by
 refine .of rfl h (fun i j _ hb=>?_) (zb8 (by omega));rw [zcR] at hb;simp only [bAT,dE] at hb;exact⟨hb.1,hb.2.1⟩
theorem zgV {f:Nat->Nat} (ha:RelOk n a) (hb:RelOk n b):comb a b f=(ju n f,0):=by
 unfold comb;have e:a.n.toNat=n:=by have:=ha.n;omega
 rw [Uu (ha.n.trans hb.n.symm),ha.ok,hb.ok,Gz (show (true&&(true&&true))=true from rfl),e]
theorem RelOk.comb {f:Nat->Nat} (ha:RelOk n a) (hb:RelOk n b) (hf:∀ i j,i<n->(f i).testBit j=true->j<n):RelOk n (comb a b f).1:=by
 rw [zgV ha hb];have h48:=ha.le;have hbit:∀ i j,zg (ju n f) i j=true->i<n/\j<n:=fun i j h=>by
  rw [zaz,bAT,dE] at h;exact⟨h.1,hf i j h.1 h.2⟩
 refine .of rfl h48 (fun i j _ h=>hbit i j h) fun i hi=>?_;apply Qz;intro hge;obtain⟨j,hj1,hj2⟩:=Ja hge;have:=(hbit i j hj2).2;omega
theorem zP (ha:RelOk n a) (hb:RelOk n b) {i j:Nat} (hi:i<n):zg (zK a b).1 i j=(zg a i j||zg b i j):=by
 unfold zK;rw [zgV ha hb];show zg (ju n _) i j=_;rw [zaz,Uu hi,Ut];rfl
theorem RelOk.union (ha:RelOk n a) (hb:RelOk n b):RelOk n (zK a b).1:=ha.comb hb fun i j hi h=>by
 rw [Ut,QI] at h;have h48:=ha.le;rcases h with h | h
 ·exact (ha.bit (by omega) h).2
 ·exact (hb.bit (by omega) h).2
theorem zhW (ha:RelOk n a) (hb:RelOk n b) {i j:Nat} (hi:i<n):zg (qK a b).1 i j=(zg a i j&&zg b i j):=by
 unfold qK;rw [zgV ha hb];show zg (ju n _) i j=_;rw [zaz,Uu hi,Ud];rfl
theorem RelOk.both (ha:RelOk n a) (hb:RelOk n b):RelOk n (qK a b).1:=ha.comb hb fun i j hi h=>by
 rw [Ud,bAT] at h;have h48:=ha.le;exact (ha.bit (by omega) h.1).2
theorem zgg (ha:RelOk n a) {i j:Nat} (hi:i<64):zg (qE a) i j=(decide (j<n)&&zg a j i):=by
 unfold zg;rw [zlp ha.ok];have e1:decide ((j:Int)<a.n)=decide (j<n):=QH.2 (by have:=ha.n;omega);have e2:decide (i∈els (a.to j))=(a.to j).testBit i:=by
  cases h:(a.to j).testBit i with
  | true=>exact Uu (zbr.2 ⟨hi,h⟩)
  | false=>exact Uj fun hm=>by rw [(zbr.1 hm).2] at h;cases h
 rw [e1,e2]
theorem RelOk.back (ha:RelOk n a):RelOk n (qE a):=by
 have h48:=ha.le;have hbit:∀ i j,i<48->zg (qE a) i j=true->i<n/\j<n:=fun i j hi h=>by
  rw [zgg ha (by omega),bAT,dE] at h;exact⟨(ha.bit (by omega) h.2).2,h.1⟩
 refine .of ?_ h48 hbit fun i hi=>?_
 ·unfold qE;rw [Gz ha.ok];exact ha.n
 ·apply Qz;intro hge;obtain⟨j,hj1,hj2⟩:=Ja hge;have:=(hbit i j hi hj2).2;omega
theorem zf6 {tq:Nat->Nat} {j:Nat}:∀ (l:List Nat) (t:Nat),(l.foldl (fun t a=>t|||tq a) t).testBit j=(t.testBit j||l.any fun a=>(tq a).testBit j)
 | [],t=>by simp
 | a::l,t=>by rw [QO,zf6 l,Ut,UE,Bool.or_assoc]
theorem zcP (ha:RelOk n a) (hb:RelOk n b) {i j:Nat} (hi:i<n):zg (qf a b).1 i j=true↔∃ k,k<n/\zg a i k=true/\zg b k j=true:=by
 unfold qf;rw [zgV ha hb];show zg (ju n _) i j=true↔_;have h48:=ha.le;rw [zaz,Uu hi,UA];unfold zdi;rw [zf6,QD,Ux,Qk];constructor
 ·rintro⟨k,hk,h⟩;exact⟨k,(ha.bit (by omega) (zbr.1 hk).2).2,(zbr.1 hk).2,h⟩
 ·rintro⟨k,hk,h1,h2⟩;exact⟨k,zbr.2 ⟨by omega,h1⟩,h2⟩
theorem RelOk.then (ha:RelOk n a) (hb:RelOk n b):RelOk n (qf a b).1:=ha.comb hb fun i j hi h=>by
 have h48:=ha.le;unfold zdi at h;rw [zf6,QD,Ux,Qk] at h;obtain⟨k,hk,h⟩:=h;have:=(ha.bit (by omega) (zbr.1 hk).2).2;exact (hb.bit (by omega) h).2
def zrk (before:Nat->Nat) (left:Nat):Prop:=∀ S,S≠0->S&&&left=S->∃ i∈els S,before i&&&S=0
theorem zmQ {before:Nat->Nat}:∀ (m left:Nat) (l:List Nat),left<2^64->(els left).length<=m->((zi1 before m left l).isSome=true↔zrk before left)
 | 0,left,l,h64,hm=>by
  have h0:left=0:=zfE h64 (by rw [Qr];exact List.length_eq_zero_iff.1 (by omega));subst h0;exact⟨fun _ S hS he=>GA he.symm (by rw [Nat.and_zero];exact hS),fun _=>rfl⟩
 | m+1,left,l,h64,hm=>by
  by_cases h0:left=0
  ·subst h0;have e:zi1 before (m+1) 0 l=some l:=Gz rfl;rw [e];exact⟨fun _ S hS he=>GA he.symm (by rw [Nat.and_zero];exact hS),fun _=>rfl⟩
  have e:zi1 before (m+1) left l=match zcA before left with | none=>none | some a=>zi1 before m (zao left (2^a)) (l++[a]):=Gy h0
  rw [e]
  cases hf:zcA before left with
  | none =>
   refine⟨fun h=>(by cases h),fun h=>?_⟩;obtain⟨i,hi,hb⟩:=h left h0 (Nat.and_self _);unfold zcA at hf;rw [List.find?_eq_none] at hf;exact GA (Uu hb) (hf i hi)
  | some k =>
   have hk:=zkY hf;have hk2:before k&&&left=0:=by
    unfold zcA at hf;have:=List.find?_some hf;exact dT this
   have hk64:=zmr hk;have hlen:=zbS h64 hk;have hsub:∀ S,S&&&jC left (2^k)=S->S&&&left=S:=fun S h=>by
    rw [<- h];unfold jC;apply Ka;intro j;simp only [Ud]
    cases S.testBit j <;> cases left.testBit j <;> simp
   dsimp only;rw [zd1,zmQ m (jC left (2^k)) (l++[k]) (zd0 h64) (by omega)];constructor
   ·intro h S hS he;by_cases hm2:k∈els S
    ·refine⟨k,hm2,?_⟩;rw [<- he,Nat.and_comm S left,<- Nat.and_assoc,hk2,Nat.zero_and]
    ·refine h S hS (Ka fun j=>?_);rw [Ud]
     cases hb:S.testBit j with
     | false=>rfl
     | true =>
      have hl:left.testBit j=true:=by
       have h2:=hb;rw [<- he,Ud,bAT] at h2;exact h2.2
      have hj:j<64:=by
       apply Qz;intro hj;have:=JF (nL h64 (Kb (by decide) hj));rw [this] at hl;cases hl
      have hjk:¬ j=k:=fun e=>hm2 (zbr.2 ⟨hk64,by rw [<- e];exact hb⟩);rw [zcV (z6 hk64) hj,hl,zdd,Uj hjk];rfl
   ·exact fun h S hS he=>h S hS (hsub S he)
theorem znG (ha:RelOk n a):jg a=true↔zrk (qE a).to (zaH n):=by
 have h48:=ha.le;unfold jg ze3;rw [Gz ha.ok,zbT,ha.n];refine zmQ 64 _ _ (jE _) ?_;unfold els;have:=JL (fun i=>(zaH n).testBit i) (List.range 64);rw [KV] at this;exact this
theorem zlu (ha:RelOk n a) (hb:RelOk n b) (hs:∀ i j,i<n->j<n->zg b i j=true->zg a i j=true) (h:jg a=true):jg b=true:=by
 have h48:=ha.le;rw [znG ha] at h;rw [znG hb];intro S hS he;obtain⟨i,hi,h0⟩:=h S hS he;refine⟨i,hi,Ka fun j=>?_⟩;have h1:=Gs (fun s=>s.testBit j) h0;simp only [Ud,QD] at h1 ⊢
 cases hj:S.testBit j with
 | false=>rw [Uk]
 | true =>
  rw [hj,Bool.and_true] at h1;rw [Bool.and_true];have hi64:=zmr hi;have e1:=zgg ha (i:=i) (j:=j) hi64;have e2:=zgg hb (i:=i) (j:=j) hi64;unfold zg at e1 e2 hs;rw [e1] at h1;rw [e2];by_cases hjn:j<n
  ·rw [Uu hjn,UA] at h1 ⊢
   cases hbj:(b.to j).testBit i with
   | false=>rfl
   | true =>
    have hin:=(hb.bit (i:=j) (j:=i) (by omega) hbj).2;rw [hs j i hjn hin hbj] at h1;cases h1
  ·rw [Uj hjn];rfl
end
structure WX (x:ExD):Prop where
 po:zG x.po.to
 rf:zG x.rf.to
 co:zG x.co.to
 dt:zG x.dt.to
 ct:zG x.ct.to
 rm:zG x.rm.to
structure XOk (x:ExD):Prop where
 n:x.ev.length<=48
 po:RelOk x.ev.length x.po
 rf:RelOk x.ev.length x.rf
 co:RelOk x.ev.length x.co
 dt:RelOk x.ev.length x.dt
 ct:RelOk x.ev.length x.ct
 rm:RelOk x.ev.length x.rm
 ev:j8 x.ev (zaR x.ev)=true
 poE:zb6 x.po (poR x.ev)=true
 rfR:zcr x=true
 coR:zcC x (zaR x.ev)=true
 dep:za9 x=true
section
variable {x:ExD}
theorem ztM (hw:WX x) (h:zS x=true):XOk x:=by
 unfold zS zbh at h;simp only [UD,List.all_nil,Bool.and_true,bAT,dE] at h;obtain⟨h1,_,_,h4,⟨h5,h6,h7,h8,h9,h10⟩,h11,h12,h13,h14⟩:=h;exact⟨h1,⟨h5.1,h5.2,hw.po⟩,⟨h6.1,h6.2,hw.rf⟩,⟨h7.1,h7.2,hw.co⟩,⟨h8.1,h8.2,hw.dt⟩,⟨h9.1,h9.2,hw.ct⟩,⟨h10.1,h10.2,hw.rm⟩,h4,h11,h12,h13,h14⟩
theorem zqP {W:Nat} {e:Ev} {es:List Ev} {i h:Nat} (hd:zdy x W i (e::es) h=true):(¬ (x.dt.to i|||x.ct.to i|||x.rm.to i=0)->e.k=1)/\∃ h',zdy x W (i+1) es h'=true:=by
 unfold zdy at hd;dsimp only at hd
 split at hd
 ·rename_i h0;exact⟨fun hn=>(hn h0).elim,h,hd⟩
 ·split at hd
  ·rename_i hc;refine⟨fun _=>hc.1,?_⟩
   split at hd
   ·exact⟨h,hd⟩
   ·split at hd
    ·exact⟨_,hd⟩
    ·cases hd
  ·cases hd
theorem zmi (h:XOk x):RelOk x.ev.length (frM x):=h.rf.back.then h.co
theorem zsC (h:XOk x) {r:RelD} (hr:RelOk x.ev.length r):RelOk x.ev.length (zaG x r):=by
 have e:r.n.toNat=x.ev.length:=by have:=hr.n;omega
 unfold zaG;rw [e];exact .pick h.n _
theorem zrX (h:XOk x) {m:Nat}:RelOk x.ev.length (if m=2 then x.rf else zaG x x.rf):=by
 split
 ·exact h.rf
 ·exact zsC h h.rf
theorem zqh (h:XOk x) {m:Nat}:RelOk x.ev.length (qV m x) := .pick h.n _
end
section
variable {n:Nat} {a b:RelD} {x:ExD}
theorem zog (h:zb6 a b=true) {i j:Nat} (hi:i<48):zg a i j=zg b i j:=by
 unfold zb6 at h;rw [bAT,Qj] at h;have:=dT (h.2 i (Ur.2 hi));unfold zg;rw [this]
theorem znl {r:RelD} (hr:RelOk x.ev.length r) {i j:Nat} (hi:i<x.ev.length) (hj:j<x.ev.length):zg (zaG x r) i j=(zg r i j && !decide ((evA x i).th=(evA x j).th)):=by
 have e:r.n.toNat=x.ev.length:=by have:=hr.n;omega
 unfold zaG;rw [e,zcR,Uu hi,Uu hj];rfl
theorem znH {t:Int}:∀ (es:List Ev) (j s k:Nat),(zg9 t j es s).testBit k=true↔s.testBit k=true\/∃ m,m<es.length/\k=j+m/\(es.getD m ev0).th=t
 | [],j,s,k=>by
  show s.testBit k=true↔_;simp
 | e::es,j,s,k=>by
  show (zg9 t (j+1) es (if e.th=t then s|||2^j else s)).testBit k=true↔_;rw [znH es];have hs:(if e.th=t then s|||2^j else s).testBit k=true↔s.testBit k=true\/(k=j/\e.th=t):=by
   split
   ·rename_i h;rw [Ut,zdd,QI,dE];simp [h]
   ·rename_i h;simp [h]
  rw [hs];constructor
  ·rintro ((h | ⟨h1,h2⟩) | ⟨m,h1,h2,h3⟩)
   ·exact .inl h
   ·exact .inr ⟨0,by simp,h1,h2⟩
   ·exact .inr ⟨m+1,by simpa using h1,by omega,by simpa using h3⟩
  ·rintro (h | ⟨m,h1,h2,h3⟩)
   ·exact .inl (.inl h)
   ·cases m with
    | zero=>exact .inl (.inr ⟨h2,h3⟩)
    | succ m=>exact .inr ⟨m,by simpa using h1,by omega,by simpa using h3⟩
theorem zl0 (h:XOk x) {i j:Nat} (hi:i<x.ev.length):zg x.po i j=true↔(evA x i).th ≠ -1/\i<j/\j<x.ev.length/\(evA x j).th=(evA x i).th:=by
 have h48:=h.n;rw [zog h.poE (by omega)];have hg:x.ev[i]?=some (evA x i):=by
  rw [gE hi];unfold evA;rw [gDe,gE hi];rfl
 show (zcv x.ev i).testBit j=true↔_;unfold zcv;rw [hg];dsimp only;by_cases ht:(evA x i).th = -1
 ·rw [Gz ht];simp [ht]
 ·rw [Gy ht,znH,QD];have hd:∀ m,(x.ev.drop (i+1)).getD m ev0=evA x (i+1+m):=fun m=>by
   unfold evA;rw [gDe,gDe,Kw]
  constructor
  ·rintro (h | ⟨m,h1,h2,h3⟩)
   ·cases h
   ·rw [hd] at h3;rw [Qt] at h1;subst h2;exact⟨ht,by omega,by omega,h3⟩
  ·rintro⟨_,h1,h2,h3⟩;refine .inr ⟨j-(i+1),by rw [Qt];omega,by omega,?_⟩;rw [hd,show i+1+(j-(i+1))=j by omega];exact h3
theorem zpQ (h:XOk x) {i j k:Nat} (hi:i<x.ev.length) (h1:zg x.po i j=true) (h2:zg x.po j k=true):zg x.po i k=true:=by
 obtain⟨a1,a2,a3,a4⟩:=(zl0 h hi).1 h1;obtain⟨b1,b2,b3,b4⟩:=(zl0 h a3).1 h2;exact (zl0 h hi).2 ⟨a1,by omega,b3,b4.trans a4⟩
theorem zf7 {s i j:Nat}:zg (idR n s) i j=(decide (i<n)&&(s.testBit j&&decide (j=i))):=by
 unfold idR;rw [zaz,Ud,zdd]
theorem RelOk.id (h:n<=48) (s:Nat):RelOk n (idR n s):=by
 have hb:∀ i j,zg (idR n s) i j=true->i<n/\j<n:=fun i j hb=>by
  rw [zf7] at hb;simp only [bAT,dE] at hb;exact⟨hb.1,by omega⟩
 refine .of rfl h (fun i j _=>hb i j) fun i hi=>?_;apply Qz;intro hge;obtain⟨j,hj1,hj2⟩:=Ja hge;have:=(hb i j hj2).2;omega
theorem zaw (h:XOk x) (md:UInt8) {i j:Nat} (hi:i<x.ev.length) (hb:zg (zB x md) i j=true):zg x.po i j=true:=by
 have h1:=h.po.then (.id h.n (j6 x md));unfold zB at hb;obtain⟨k,hk,hb1,hb2⟩:=(zcP h1 h.po hi).1 hb;obtain⟨m,hm,hc1,hc2⟩:=(zcP h.po (.id h.n (j6 x md)) hi).1 hb1;rw [zf7] at hc2;simp only [bAT,dE] at hc2;obtain rfl:=hc2.2.2;exact zpQ h hi hc1 hb2
end
theorem zit {X:Wd} {L:Nat} {r:RelD} (h:zN X L r):∀ i,i<48->X.cell? ⟨L,0+1+i*1,none⟩=some (s64 (r.to i)):=by
 have hR:RelAt X L 0 30 [] [] r:=⟨rfl,by simpa using h⟩;exact fun i hi=>hR.cell hi
section
variable {b c:Nat} {x:ExD} {q:OA} {w:Wd}
theorem zuB {r:RelD} {a d R B:Nat} (fR:zN w R r) (hr:zG r.to) (fB:w.heap[B]?=some (.cells #[At0 b] 86 (0,0))) (fx:ExH w b x q c) (hv:ExV w x q) (ha:a<x.ev.length) (hd:d<x.ev.length) :
  CB 167 #[i64 (a:Nat),i64 (d:Nat),At0 R,At0 B] w (.bool (zg r a d && !decide ((evA x a).th=(evA x d).th))):=by
 refine zJ 29 [i64 (a:Nat),i64 (d:Nat),At0 R,At0 B] Tryz.func167 ?_;have hn:=hv.n;obtain⟨bq,oq,hqe,hb,hat⟩:=zbG hv.ev ha;obtain⟨bq2,oq2,hqe2,hb2,hat2⟩:=zbG hv.ev hd;rw [hqe] at hqe2;simp only [KZ,Uw,Gr] at hqe2;rw [<- hqe2.1,<- hqe2.2] at hat2;subst hqe;have dw:Bw w w.drew:=(Gj _ _).drew;refine DrawE.ord [] [0,1,2,3,4,5,6,7,8,9,10,11,12,13,14,15,16,17,18,19,20,21,22] (by kernel_rfl) (cmo (zU (zit (hdr fR)) hr (by omega) (by omega)) ?_);rintro e _ ⟨rfl,rfl⟩;refine⟨Gj _ _,biE (fun h1=>?_) fun h1=>?_⟩
 ·have h1:zg r a d=true:=h1;exact⟨At0 b,zc (za (hdr fB)) (i:=0) rfl,_,jq (za (hdr fx)),a,rfl,ha,i64 (evA x a).th,by have:=zc (zt dw hat) (i:=0) (v:=i64 (evA x a).th) rfl;exact this,At0 b,zc (za (hdr fB)) (i:=0) rfl,_,jq (za (hdr fx)),d,rfl,hd,i64 (evA x d).th,by have:=zc (zt dw hat2) (i:=0) (v:=i64 (evA x d).th) rfl;exact this,rb (by rw [h1,UA]),dw⟩
 ·have h1:zg r a d=false:=h1;exact⟨rb (by rw [h1,Ul]),dw⟩
theorem zoX {a d B:Nat} (fB:w.heap[B]?=some (.cells #[At0 b] 86 (0,0))) (fx:ExH w b x q c) (hv:ExV w x q) (ha:a<x.ev.length) (hd:d<x.ev.length) :
  CB 116 #[i64 (a:Nat),i64 (d:Nat),At0 B] w (.bool (zg x.po a d&&zaJ x a d)):=by
 refine zJ 18 [i64 (a:Nat),i64 (d:Nat),At0 B] Tryz.func116 ?_;have hn:=hv.n;refine⟨At0 b,zc (za fB) (i:=0) rfl,cmo (zU (zga (za fx) (zqF x q c)) hv.po (by omega) (by omega)) ?_⟩;rintro e _ ⟨rfl,rfl⟩;refine biE (fun h1=>?_) fun h1=>?_
 ·have h1:zg x.po a d=true:=h1;refine⟨At0 b,zc (za fB) (i:=0) rfl,cmo (zlM (za fx) hv.ev ha hd) ?_⟩;rintro e X ⟨rfl,hb⟩;exact⟨rb (by rw [h1,UA]),hb⟩
 ·have h1:zg x.po a d=false:=h1;exact⟨rb (by rw [h1,Ul]),Gj _ _⟩
theorem ztz {r:RelD} (fx:ExH w b x q c) (hv:ExV w x q) (hr:zG r.to) (hn:r.n=x.ev.length) :
  CB 120 #[At0 b,.agg (zd r).toArray] w (.agg (zd (zaG x r)).toArray):=by
 refine qa 9 [At0 b,.agg (zd r).toArray] (.c .p (.c .p .p)) Tryz.func120 ?_;obtain⟨L,hL⟩:=nm (w.heap.size);have h19:=hv.n;refine⟨Unit,fun _=>⟨[(2,At0 L),(3,At0 (L+1)),(4,At0 (L+2))],[]⟩,fun _ X=>X.heap[L]?=some (.cells #[At0 b] 86 (0,0))/\zN X (L+1) r/\zN X (L+2) zp/\Bw w X,?_,?_⟩
 ·have s1:=wz w (.cells #[At0 b] 86);have s2:=wz (w.alloc (.cells #[At0 b] 86)) (.cells (zd r).toArray 30);have b1:Bw w (w.alloc (.cells #[At0 b] 86)):=zba w _;have b2:=b1.alloc b1.size (.cells (zd r).toArray 30);have h1:=zz w (.cells #[At0 b] 86);have h2:=zz (w.alloc (.cells #[At0 b] 86)) (.cells (zd r).toArray 30);have h3:=zz ((w.alloc (.cells #[At0 b] 86)).alloc (.cells (zd r).toArray 30)) (.cells (zd zp).toArray 30);rw [s1] at h2 s2;rw [s2] at h3;refine⟨(),⟨.cons (by rw [hL];rfl) (.cons (by rw [hL,<- s1];rfl) (.cons (by rw [hL,<- s2];rfl) .nil)),rfl⟩,by rw [hL];exact qm _ (qm _ h1),by rw [hL];exact qm _ h2,by rw [hL];exact h3,b2.alloc b2.size _⟩
 rintro _ X ⟨fB,fR,f0,hbX⟩;have fX:=zb hbX fx;have hvX:=hv.below hbX;refine⟨Unit,fun _=>⟨[(4,At0 (L+2))],[]⟩,fun _ Y=>zN Y (L+2) (zaG x r)/\Bw w Y,?_,?_⟩
 ·refine⟨i64 r.n,by have:=zc (za fR) (i:=0) (v:=i64 r.n) rfl;exact this,?_⟩;have en:zaG x r=zbe x.ev.length fun a d=>zg r a d && !decide ((evA x a).th=(evA x d).th):=by
   unfold zaG;rw [hn];rfl
  rw [hn];refine cmo (zha (n:=x.ev.length) (caps := #[At0 (L+1),At0 L]) (g:=167) (p:=fun a d=>zg r a d && !decide ((evA x a).th=(evA x d).th)) (by omega) (by kernel_rfl) fun a d Z ha hd hb=>zuB (zb hb fR) hr (zb hb fB) (zb hb fX) (hvX.below hb) ha hd) ?_;rintro e Y ⟨rfl,hbY⟩;rw [<- en];have f0:=zb hbY f0;exact zr (v := .agg (zd (zaG x r)).toArray) k30 f0 (ze _) (ze _) (zD _) ⟨(),(cvE rfl rfl),zm f0,zj ((zst hbX hbY)) (by omega) _⟩
 rintro _ Y ⟨f0,hbY⟩;exact⟨zd (zaG x r),ze _,za f0,rfl,hbY⟩
end
section
variable {b c:Nat} {x:ExD} {q:OA} {w:Wd}
theorem zuu {r:RelD} {a d R:Nat} (fR:zN w R r) (hr:zG r.to) (fx:ExH w b x q c) (hv:ExV w x q) (ha:a<x.ev.length) (hd:d<x.ev.length) :
  CB 148 #[i64 (a:Nat),i64 (d:Nat),At0 R,At0 b] w (.bool (zg r a d&&decide ((evA x a).th=(evA x d).th))):=by
 refine zJ 25 [i64 (a:Nat),i64 (d:Nat),At0 R,At0 b] Tryz.func148 ?_;have hn:=hv.n;obtain⟨bq,oq,hqe,hb,hat⟩:=zbG hv.ev ha;obtain⟨bq2,oq2,hqe2,hb2,hat2⟩:=zbG hv.ev hd;rw [hqe] at hqe2;simp only [KZ,Uw,Gr] at hqe2;rw [<- hqe2.1,<- hqe2.2] at hat2;subst hqe;have dw:Bw w w.drew:=(Gj _ _).drew;refine DrawE.ord [] [0,1,2,3,4,5,6,7,8,9,10,11,12,13,14,15,16,17,18] (by kernel_rfl) (cmo (zU (zit (hdr fR)) hr (by omega) (by omega)) ?_);rintro e _ ⟨rfl,rfl⟩;refine⟨Gj _ _,biE (fun h1=>?_) fun h1=>?_⟩
 ·have h1:zg r a d=true:=h1;exact⟨_,jq (za (hdr fx)),a,rfl,ha,i64 (evA x a).th,by have:=zc (zt dw hat) (i:=0) (v:=i64 (evA x a).th) rfl;exact this,_,jq (za (hdr fx)),d,rfl,hd,i64 (evA x d).th,by have:=zc (zt dw hat2) (i:=0) (v:=i64 (evA x d).th) rfl;exact this,rb (by rw [h1,UA]),dw⟩
 ·have h1:zg r a d=false:=h1;exact⟨rb (by rw [h1,Ul]),dw⟩
theorem zuj {a d:Nat} (fx:ExH w b x q c) (hv:ExV w x q) (ha:a<x.ev.length) (hd:d<x.ev.length) :
  CB 146 #[i64 (a:Nat),i64 (d:Nat),At0 b] w (.bool (zaJ x a d)):=by
 refine zJ 9 [i64 (a:Nat),i64 (d:Nat),At0 b] Tryz.func146 ?_;refine cmo (zlM (za fx) hv.ev ha hd) ?_;rintro e X ⟨rfl,hb⟩;exact⟨rfl,hb⟩
end
section
variable {b c:Nat} {x:ExD} {q:OA} {w:Wd}
theorem zqB {md:UInt8} (fx:ExH w b x q c) (hv:ExV w x q) (hT:Tz64M w):CB 168 #[At0 b,u8 md] w (.agg (zd (zB x md)).toArray):=by
 refine qa 70 [At0 b,u8 md] (.c .p (.c .p (.c .p (.c .p (.c .p (.c .p (.c .p .p))))))) Tryz.func168 ?_;obtain⟨L,hL⟩:=nm (w.heap.size);have hn:=hv.n;obtain⟨n,hnn⟩:=nm (x.ev.length);refine⟨Unit,fun _=>⟨[(0,At0 b),(1,u8 md),(4,At0 L)],[]⟩,fun _ X=>zN X L zp/\Bw w X,⟨(),⟨.cons rfl (.cons rfl (.cons (by rw [hL];rfl) .nil)),rfl⟩,by rw [hL];exact zz w _,(zba w _)⟩,?_⟩;rintro _ X ⟨f0,hbX⟩;refine⟨Unit,fun _=>⟨[(0,At0 b),(1,u8 md),(4,At0 L),(5,i64 n)],[]⟩,fun _ Y=>X=Y,?_,?_⟩
 ·exact⟨_,zc (za (zb hbX fx)) (i:=0) rfl,(),⟨.cons rfl (.cons rfl (.cons rfl (.cons (by rw [hnn];rfl) .nil))),rfl⟩,rfl⟩
 rintro _ _ rfl;refine⟨Unit,fun _=>⟨[(0,At0 b),(1,u8 md),(4,At0 L),(5,i64 n),(6,.slice none 0 0)],[]⟩,fun _ Y=>X=Y,⟨(),(cvE rfl rfl),rfl⟩,?_⟩;rintro _ _ rfl;obtain⟨pr,hpr⟩:∃ pr:Nat->Bool,pr=fun i=>decide ((evA x i).k=3)&&decide ((evA x i).m=md):=⟨_,rfl⟩;obtain⟨B,hB⟩:=nm (X.heap.size);refine⟨OA×Nat,fun s=>⟨[(0,At0 b),(4,At0 L),(5,i64 n),(6,.slice s.1 ((List.range n).filter pr).length s.2)],[]⟩,fun s V=>OwnS zE 3 B V s.1 s.2 ((List.range n).filter pr)/\Below B X V,?_,?_⟩
 ·refine⟨_,zc (za (zb hbX fx)) (i:=0) rfl,?_⟩;refine⟨Nat×OA×Nat,fun s=>⟨[(0,At0 b),(1,u8 md),(4,At0 L),(5,i64 n),(6,.slice s.2.1 ((List.range s.1).filter pr).length s.2.2),(23,.slice q x.ev.length c),(24,i64 x.ev.length),(25,i64 (s.1:Nat))],[]⟩,fun s V=>s.1<=x.ev.length/\OwnS zE 3 B V s.2.1 s.2.2 ((List.range s.1).filter pr)/\Below B X V,fun s=>x.ev.length-s.1,(0,none,0),
   (cvE rfl rfl),⟨Gg _,OwnS.nil,by rw [hB];exact Gj _ _⟩,?_⟩
  rintro⟨k,ps,cs⟩ V ⟨hk,oV,hbV⟩;dsimp only at hk oV ⊢;have hVs:B<=V.heap.size:=by have:=hbV.size;omega
  refine biE (fun hc=>?_) fun hc=>?_
  ·have hc:(k:Int)<(x.ev.length:Int):=dT hc;have hkl:k<x.ev.length:=by omega
   have hbwV:=hbX.trans (hbV.mono (by rw [hB];exact hbX.size));obtain⟨bq,oq,hqe,hb,hat⟩:=zbG (hv.ev.below hbwV) hkl;have hfl:(List.range (k+1)).filter pr=(List.range k).filter pr++if pr k=true then [k] else []:=by
    rw [QY,Kv,Qn,List.filter_nil]
   have hprk:pr k=(decide ((evA x k).k=3)&&decide ((evA x k).m=md)):=by rw [hpr]
   have hll2:((List.range k).filter pr).length<=k:=by
    have:=JL pr (List.range k);rw [KV] at this;exact this
   obtain⟨e,he⟩:=nm (evA x k);rw [<- he] at hat hprk;have eq0:some (Value.slice q x.ev.length c)=some (Value.slice (some ⟨bq,oq,none⟩) x.ev.length c):=by rw [hqe]
   subst hqe;refine⟨k,rfl,hkl,evE.enc e,rfl,hat,hb,zn (X:=V) (v := .agg (evE.enc e).toArray) zd3 rfl rfl (Qj.2 fun u hu=>evE.one e u hu) fun U hbU fU sU=>?_⟩;have fU:U.heap[V.heap.size]?=some (.cells (evE.enc e).toArray 158 (0,0)):=fU;have oU:=oV.below hbU;have hbU2:=hbV.trans (hbU.mono hVs);have hUs:B<=U.heap.size:=by have:=hbU.size;omega
   have skip:pr k=false->(k+1<=x.ev.length/\OwnS zE 3 B U ps cs ((List.range (k+1)).filter pr)/\Below B X U):=fun h=>⟨hkl,by rw [hfl,h];simpa using oU,hbU2⟩;have zcm:pr k=false->((List.range (k+1)).filter pr).length=((List.range k).filter pr).length:=fun h=>by rw [hfl,h];simp
   refine⟨u8 e.k,zc (za fU) (i:=1) rfl,biE (fun h1=>?_) fun h1=>?_⟩
   ·have h1:e.k=3:=qG.1 (dT h1);refine⟨u8 e.m,zc (za fU) (i:=4) rfl,biE (fun h2=>?_) fun h2=>?_⟩
    ·have h2:e.m=md:=qG.1 (dT h2);have hp1:pr k=true:=(by rw [hprk,Uu h1,Uu h2];rfl);rw [Gz hp1] at hfl;refine⟨⟨by decide,by decide,rfl⟩,zE.enc k,rfl,?_⟩;have hb2:Bw U (U.alloc (.cells (zE.enc k).toArray 3)):=zba _ _;have sb2:=hb2.size;unfold zeK zaI;show SatR _ _;refine zo2 (oU.below hb2) (qH zE k) (by omega) (by omega) fun p' c' S oS gS hat2=>?_;rw [zaP] at gS;rw [<- hfl] at oS ⊢;exact nxI (by omega) ⟨(k+1,p',c'),(cvE rfl rfl),⟨hkl,oS,hbU2.trans ((hb2.mono hUs).trans (q5 (oU.below hb2) (by omega) (Ge _) gS))⟩,zdc (by omega)⟩
    ·have h2:¬ e.m=md:=fun e2=>(dF h2) (by rw [e2]);have hp0:pr k=false:=(by rw [hprk,Uj h2,Uk]);exact nxI (by omega) ⟨(k+1,ps,cs),⟨.cons rfl (.cons rfl (.cons rfl (.cons rfl (.cons (by show _=some (Value.slice ps ((List.range (k+1)).filter pr).length cs);rw [zcm hp0];rfl) (.cons rfl (.cons rfl (.cons rfl .nil))))))),rfl⟩,skip hp0,zdc (by omega)⟩
   ·have h1:¬ e.k=3:=fun e2=>(dF h1) (by rw [e2];rfl);have hp0:pr k=false:=(by rw [hprk,Uj h1];rfl);exact brF (nxI (by omega) ⟨(k+1,ps,cs),⟨.cons rfl (.cons rfl (.cons rfl (.cons rfl (.cons (by show _=some (Value.slice ps ((List.range (k+1)).filter pr).length cs);rw [zcm hp0];rfl) (.cons rfl (.cons rfl (.cons rfl .nil))))))),rfl⟩,skip hp0,zdc (by omega)⟩)
  ·have hc:¬ (k:Int)<(x.ev.length:Int):=dF hc;obtain rfl:k=x.ev.length:=by omega
   rw [<- hnn] at oV ⊢;exact⟨(ps,cs),(cvE rfl rfl),oV,hbV⟩
 rintro⟨ps,cs⟩ V ⟨oV,hbV⟩;dsimp only at oV ⊢;have hVs:B<=V.heap.size:=by have:=hbV.size;omega
 have hbwV:=hbX.trans (hbV.mono (by rw [hB];exact hbX.size));have hmask:orG ((List.range n).filter pr)=j6 x md:=by rw [hpr,hnn];rfl
 have hlt64:∀ i∈(List.range n).filter pr,i<64:=fun i hi=>by
  have:=Ur.1 (QV.1 hi).1;omega
 have hlen:((List.range n).filter pr).length<=n:=by
  have:=JL pr (List.range n);rw [KV] at this;exact this
 refine⟨Unit,fun _=>⟨[(0,At0 b),(4,At0 L),(5,i64 n),(9,s64 (j6 x md))],[]⟩,fun _ Y=>V=Y,?_,?_⟩
 ·refine cmo (zwU oV.row hlt64 (by omega)) ?_;rintro e Y ⟨rfl,rfl⟩;rw [hmask];exact⟨(),(cvE rfl rfl),rfl⟩
 rintro _ _ rfl;have hm64:j6 x md<2^64:=by rw [<- hmask];exact zl2 hlt64
 replace f0:=zb (by subst hB;exact hbV) f0;have fV:=zb hbwV fx;have hvV:=hv.below hbwV;have hTV:=hT.below hbwV;clear oV hbX hbV hlen hlt64 hmask hpr hB hVs;clear B ps cs pr X;have idw:zG (idR n (j6 x md)).to:=fun i hi=>by
  unfold idR;exact za0 (fun i _ _=>KE Ua hm64) i hi
 have hba:∀ (A:Wd) (o:Obj),Bw A (A.alloc o):=fun A o=>(zba _ _);refine⟨Nat,fun F=>⟨[(0,At0 b),(4,At0 L),(11,At0 F)],[]⟩,fun F Z=>zN Z F (qf x.po (idR n (j6 x md))).1/\zN Z L zp/\Bw w Z,?_,?_⟩
 ·have dV:Bw V V.drew:=(Gj _ _).drew;have put:∀ (W:Wd) (b3:Nat),Bw V W->zN W b3 zp->V.heap.size<=b3->∀ {K:Wd->Prop},(∀ Y,(zN Y b3 (qf x.po (idR n (j6 x md))).1/\zN Y L zp/\Bw w Y)->K Y) ->
    SatR ((storeVar 30 ⟨b3,0,none⟩ (.agg (zd (qf x.po (idR n (j6 x md))).1).toArray)).run PG W) fun _ w'=>K w':=by
   intro W b3 hW f3 g3 K k;refine zr (v := .agg (zd (qf x.po (idR n (j6 x md))).1).toArray) k30 f3 (ze _) (ze _) (zD _) ?_;have hL2:=hlt f0;exact k _ ⟨zm f3,(zo (by omega)).trans (zb hW f0),zj ((zst hbwV hW)) (by have:=hbwV.size;omega) _⟩
  refine DrawE.treeQ [12] (.op 0 (.op 1 (.op 2 (.op 3 (.op 4 (.op 5 (.alt (.op 11 (.op 6 (.op 7 (.op 8 (.op 9 (.op 10 (.op 12 (.op 13 (.nil))))))))) (.op 6 (.alt (.op 11 (.op 7 (.op 8 (.op 9 (.op 10 (.op 12 (.op 13 (.nil)))))))) (.op 7 (.op 8 (.op 9 (.op 10 (.op 11 (.op 12 (.op 13 (.nil))))))))))))))))) (by kernel_rfl) ⟨zd x.po,ze _,qi (hdr fV) (i:=0) (by decide) rfl,hlt (hdr fV),Gp ?_ ?_⟩
  ·refine⟨hba _ _,?_⟩;have b1:=dV.alloc (Ge _) (.cells (zd zp).toArray 30);refine cmo (ztk (n:=n) (by omega) hm64) ?_;rintro e Y ⟨rfl,hbY⟩;refine⟨hbY,?_⟩;have b2:=zst b1 hbY;refine cmo (zcg hvV.po idw (hTV.below b2)) ?_;rintro e Z ⟨rfl,hbZ⟩;exact⟨hbZ,put Z V.heap.size ((zst b2 hbZ)) (zb hbZ (zb hbY (zz V.drew _))) (Ge _) (fun Y hY=>⟨V.heap.size,(cvE rfl rfl),hY⟩)⟩
  refine cmo (ztk (n:=n) (by omega) hm64) ?_;rintro e Y ⟨rfl,hbY⟩;refine⟨hbY,?_⟩;have b1:=zst dV hbY;refine Gp ?_ ?_
  ·refine⟨hba _ _,?_⟩;have b2:=b1.alloc b1.size (.cells (zd zp).toArray 30);refine cmo (zcg hvV.po idw (hTV.below b2)) ?_;rintro e Z ⟨rfl,hbZ⟩;exact⟨hbZ,put Z Y.heap.size ((zst b2 hbZ)) (zb hbZ (zz Y _)) b1.size (fun V2 hV=>⟨Y.heap.size,(cvE rfl rfl),hV⟩)⟩
  ·refine cmo (zcg hvV.po idw (hTV.below b1)) ?_;rintro e Z ⟨rfl,hbZ⟩;refine⟨hbZ,?_⟩;have b2:=zst b1 hbZ;exact⟨hba _ _,put _ Z.heap.size (b2.alloc b2.size _) (zz Z _) b2.size (fun V2 hV=>⟨Z.heap.size,(cvE rfl rfl),hV⟩)⟩
 clear f0 fV hvV hTV hbwV;clear V;rintro F V ⟨f1,f0,hbV⟩;have fV:=zb hbV fx;have hTV:=hT.below hbV;have hFw:=zcO hv.po idw;have efen:(qf (qf x.po (idR n (j6 x md))).1 x.po).1=zB x md:=by rw [hnn];rfl
 refine⟨Nat,fun G=>⟨[(4,At0 L),(13,At0 G)],[]⟩,fun G Z=>zN Z G (zB x md)/\zN Z L zp/\Bw w Z,?_,?_⟩
 ·have dV:Bw V V.drew:=(Gj _ _).drew;have put:∀ (W:Wd) (b3:Nat),Bw V W->zN W b3 zp->V.heap.size<=b3->∀ {K:Wd->Prop},(∀ Y,(zN Y b3 (zB x md)/\zN Y L zp/\Bw w Y)->K Y) ->
    SatR ((storeVar 30 ⟨b3,0,none⟩ (.agg (zd (zB x md)).toArray)).run PG W) fun _ w'=>K w':=by
   intro W b3 hW f3 g3 K k;refine zr (v := .agg (zd (zB x md)).toArray) k30 f3 (ze _) (ze _) (zD _) ?_;have hL2:=hlt f0;exact k _ ⟨zm f3,(zo (by omega)).trans (zb hW f0),zj ((zst hbV hW)) (by have:=hbV.size;omega) _⟩
  refine DrawE.treeQ [10] (.op 0 (.op 1 (.op 2 (.op 3 (.op 4 (.alt (.op 9 (.op 5 (.op 6 (.op 7 (.op 8 (.op 10 (.op 11 .nil))))))) (.op 5 (.op 6 (.op 7 (.op 8 (.op 9 (.op 10 (.op 11 .nil))))))))))))) (by kernel_rfl) ⟨zd _,ze _,za (hdr f1),hlt (hdr f1),zd x.po,ze _,qi (hdr fV) (i:=0) (by decide) rfl,hlt (hdr fV),Gp ?_ ?_⟩
  ·refine⟨hba _ _,?_⟩;have b1:=dV.alloc (Ge _) (.cells (zd zp).toArray 30);refine cmo (zcg hFw hv.po (hTV.below b1)) ?_;rintro e Y ⟨rfl,hbY⟩;refine⟨hbY,?_⟩;rw [efen];exact put Y V.heap.size ((zst b1 hbY)) (zb hbY (zz V.drew _)) (Ge _) (fun Y hY=>⟨V.heap.size,(cvE rfl rfl),hY⟩)
  ·refine cmo (zcg hFw hv.po (hTV.below dV)) ?_;rintro e Y ⟨rfl,hbY⟩;refine⟨hbY,?_⟩;have b1:=zst dV hbY;refine⟨hba _ _,?_⟩;rw [efen];exact put _ Y.heap.size (b1.alloc b1.size _) (zz Y _) b1.size (fun V2 hV=>⟨Y.heap.size,(cvE rfl rfl),hV⟩)
 rintro G Z ⟨f1,f0,hbZ⟩;exact⟨zd (zB x md),ze _,za f1,hlt f1,zr (v := .agg (zd (zB x md)).toArray) k30 f0 (ze _) (ze _) (zD _) ⟨zd (zB x md),ze _,za (zm f0),rfl,zj hbZ (by omega) _⟩⟩
end
section
variable {w:Wd} {b c:Nat} {x:ExD} {q:OA} {f l s:RelD}
theorem zrV {a d:Nat}:CB 207 #[At0 b,i64 (a:Nat),i64 (d:Nat)] w (.bool (zcb 1 x f l s a d)):=by
 refine zJ 7 [At0 b,i64 (a:Nat),i64 (d:Nat)] Tryz.func207 ?_;exact⟨rfl,Gj _ _⟩
theorem zrU {a d:Nat}:CB 208 #[At0 b,i64 (a:Nat),i64 (d:Nat)] w (.bool (zcb 2 x f l s a d)):=by
 refine zJ 7 [At0 b,i64 (a:Nat),i64 (d:Nat)] Tryz.func208 ?_;exact⟨rfl,Gj _ _⟩
theorem zrT {a d:Nat} (h:ScnV w b x q c f l s) (ha:a<x.ev.length) (hd:d<x.ev.length):CB 209 #[At0 b,i64 (a:Nat),i64 (d:Nat)] w (.bool (zcb 3 x f l s a d)):=by
 refine zJ 21 [At0 b,i64 (a:Nat),i64 (d:Nat)] Tryz.func209 ?_;have hn:=h.v.n;have hA:a<48:=by omega
 have hD:d<48:=by omega
 have hbw:=Gj w.heap.size w;refine cmo (zeI h ha) ?_;rintro e _ ⟨rfl,rfl⟩;refine biE (fun h1=>?_) fun h1=>?_
 ·have h1:isR x a=true:=h1;exact brT ⟨rb (by show _=(isR x a||(isW x d||jF x f a d));rw [h1];rfl),hbw⟩
 ·have h1:isR x a=false:=h1;refine cmo (jy h hd) ?_;rintro e _ ⟨rfl,rfl⟩;refine biE (fun h2=>?_) fun h2=>?_
  ·have h2:isW x d=true:=h2;exact⟨rb (by show _=(isR x a||(isW x d||jF x f a d));rw [h1,h2];rfl),hbw⟩
  ·have h2:isW x d=false:=h2;refine cmo (znA h ha hd) ?_;rintro e _ ⟨rfl,rfl⟩;exact⟨rb (by show _=(isR x a||(isW x d||jF x f a d));rw [h1,h2];rfl),hbw⟩
theorem zrS {a d:Nat} (h:ScnV w b x q c f l s) (ha:a<x.ev.length) (hd:d<x.ev.length):CB 213 #[At0 b,i64 (a:Nat),i64 (d:Nat)] w (.bool (zcb 4 x f l s a d)):=by
 refine zJ 37 [At0 b,i64 (a:Nat),i64 (d:Nat)] Tryz.func213 ?_;have hn:=h.v.n;have hA:a<48:=by omega
 have hD:d<48:=by omega
 have hbw:=Gj w.heap.size w;refine cmo (zeI h ha) ?_;rintro e _ ⟨rfl,rfl⟩;refine biE (fun h1=>?_) fun h1=>?_
 ·have h1:isR x a=true:=h1;exact brT ⟨rb (by show _=(isR x a||(jF x f a d||(isW x d&&(zaJ x a d||zg s a d))));rw [h1];rfl),hbw⟩
 ·have h1:isR x a=false:=h1;refine cmo (znA h ha hd) ?_;rintro e _ ⟨rfl,rfl⟩;refine biE (fun h2=>?_) fun h2=>?_
  ·have h2:jF x f a d=true:=h2;exact⟨rb (by show _=(isR x a||(jF x f a d||(isW x d&&(zaJ x a d||zg s a d))));rw [h1,h2];rfl),hbw⟩
  ·have h2:jF x f a d=false:=h2;refine cmo (jy h hd) ?_;rintro e _ ⟨rfl,rfl⟩;refine biE (fun h3=>?_) fun h3=>?_
   ·have h3:isW x d=true:=h3;refine cmo (zlM h.cells h.v.ev ha hd) ?_;rintro e Z4 ⟨rfl,hbZ4⟩;have h:=h.below hbZ4;have hbw:=zst hbw hbZ4;refine biE (fun h4=>?_) fun h4=>?_
    ·have h4:zaJ x a d=true:=h4;exact⟨rb (by show _=(isR x a||(jF x f a d||(isW x d&&(zaJ x a d||zg s a d))));rw [h1,h2,h3,h4];rfl),hbw⟩
    ·have h4:zaJ x a d=false:=h4;refine cmo (zU h.stores h.ws hA hD) ?_;rintro e _ ⟨rfl,rfl⟩;exact⟨rb (by show _=(isR x a||(jF x f a d||(isW x d&&(zaJ x a d||zg s a d))));rw [h1,h2,h3,h4];rfl),hbw⟩
   ·have h3:isW x d=false:=h3;exact⟨rb (by show _=(isR x a||(jF x f a d||(isW x d&&(zaJ x a d||zg s a d))));rw [h1,h2,h3];rfl),hbw⟩
theorem zrR {a d:Nat} (h:ScnV w b x q c f l s) (ha:a<x.ev.length) (hd:d<x.ev.length):CB 214 #[At0 b,i64 (a:Nat),i64 (d:Nat)] w (.bool (zcb 5 x f l s a d)):=by
 refine zJ 49 [At0 b,i64 (a:Nat),i64 (d:Nat)] Tryz.func214 ?_;have hn:=h.v.n;have hA:a<48:=by omega
 have hD:d<48:=by omega
 have hbw:=Gj w.heap.size w;refine cmo (zeI h ha) ?_;rintro e _ ⟨rfl,rfl⟩;refine biE (fun h1=>?_) fun h1=>?_
 ·have h1:isR x a=true:=h1;refine cmo (zdI (md:=1) h ha) ?_;rintro e _ ⟨rfl,rfl⟩;refine biE (fun h2=>?_) fun h2=>?_
  ·have h2:zO x a 1=true:=h2;exact brT (brT ⟨rb (by show _=((isR x a&&(zO x a 1||zg l a d))||((isW x d&&(zO x d 2||zg s a d))||zg f a d));rw [h1,h2];rfl),hbw⟩)
  ·have h2:zO x a 1=false:=h2;refine cmo (zU h.loads h.wl hA hD) ?_;rintro e _ ⟨rfl,rfl⟩;refine biE (fun h3=>?_) fun h3=>?_
   ·have h3:zg l a d=true:=h3;exact brT ⟨rb (by show _=((isR x a&&(zO x a 1||zg l a d))||((isW x d&&(zO x d 2||zg s a d))||zg f a d));rw [h1,h2,h3];rfl),hbw⟩
   ·have h3:zg l a d=false:=h3;refine cmo (jy h hd) ?_;rintro e _ ⟨rfl,rfl⟩;refine biE (fun h4=>?_) fun h4=>?_
    ·have h4:isW x d=true:=h4;refine cmo (zdI (md:=2) h hd) ?_;rintro e _ ⟨rfl,rfl⟩;refine biE (fun h5=>?_) fun h5=>?_
     ·have h5:zO x d 2=true:=h5;exact brT ⟨rb (by show _=((isR x a&&(zO x a 1||zg l a d))||((isW x d&&(zO x d 2||zg s a d))||zg f a d));rw [h1,h2,h3,h4,h5];rfl),hbw⟩
     ·have h5:zO x d 2=false:=h5;refine cmo (zU h.stores h.ws hA hD) ?_;rintro e _ ⟨rfl,rfl⟩;refine biE (fun h6=>?_) fun h6=>?_
      ·have h6:zg s a d=true:=h6;exact⟨rb (by show _=((isR x a&&(zO x a 1||zg l a d))||((isW x d&&(zO x d 2||zg s a d))||zg f a d));rw [h1,h2,h3,h4,h5,h6];rfl),hbw⟩
      ·have h6:zg s a d=false:=h6;refine cmo (zU h.full h.wf hA hD) ?_;rintro e _ ⟨rfl,rfl⟩;exact⟨rb (by show _=((isR x a&&(zO x a 1||zg l a d))||((isW x d&&(zO x d 2||zg s a d))||zg f a d));rw [h1,h2,h3,h4,h5,h6];rfl),hbw⟩
    ·have h4:isW x d=false:=h4;refine brF (cmo (zU h.full h.wf hA hD) ?_);rintro e _ ⟨rfl,rfl⟩;exact⟨rb (by show _=((isR x a&&(zO x a 1||zg l a d))||((isW x d&&(zO x d 2||zg s a d))||zg f a d));rw [h1,h2,h3,h4];rfl),hbw⟩
 ·have h1:isR x a=false:=h1;refine brF (cmo (jy h hd) ?_);rintro e _ ⟨rfl,rfl⟩;refine biE (fun h9=>?_) fun h9=>?_
  ·have h9:isW x d=true:=h9;refine cmo (zdI (md:=2) h hd) ?_;rintro e _ ⟨rfl,rfl⟩;refine biE (fun h10=>?_) fun h10=>?_
   ·have h10:zO x d 2=true:=h10;exact brT ⟨rb (by show _=((isR x a&&(zO x a 1||zg l a d))||((isW x d&&(zO x d 2||zg s a d))||zg f a d));rw [h1,h9,h10];rfl),hbw⟩
   ·have h10:zO x d 2=false:=h10;refine cmo (zU h.stores h.ws hA hD) ?_;rintro e _ ⟨rfl,rfl⟩;refine biE (fun h11=>?_) fun h11=>?_
    ·have h11:zg s a d=true:=h11;exact⟨rb (by show _=((isR x a&&(zO x a 1||zg l a d))||((isW x d&&(zO x d 2||zg s a d))||zg f a d));rw [h1,h9,h10,h11];rfl),hbw⟩
    ·have h11:zg s a d=false:=h11;refine cmo (zU h.full h.wf hA hD) ?_;rintro e _ ⟨rfl,rfl⟩;exact⟨rb (by show _=((isR x a&&(zO x a 1||zg l a d))||((isW x d&&(zO x d 2||zg s a d))||zg f a d));rw [h1,h9,h10,h11];rfl),hbw⟩
  ·have h9:isW x d=false:=h9;refine brF (cmo (zU h.full h.wf hA hD) ?_);rintro e _ ⟨rfl,rfl⟩;exact⟨rb (by show _=((isR x a&&(zO x a 1||zg l a d))||((isW x d&&(zO x d 2||zg s a d))||zg f a d));rw [h1,h9];rfl),hbw⟩
theorem zrQ {a d:Nat} (h:ScnV w b x q c f l s) (ha:a<x.ev.length) (hd:d<x.ev.length):CB 216 #[At0 b,i64 (a:Nat),i64 (d:Nat)] w (.bool (zcb 6 x f l s a d)):=by
 refine zJ 81 [At0 b,i64 (a:Nat),i64 (d:Nat)] Tryz.func216 ?_;have hn:=h.v.n;have hA:a<48:=by omega
 have hD:d<48:=by omega
 have hbw:=Gj w.heap.size w;refine cmo (zU (zga h.cells (zuC x q c)) h.v.dt hA hD) ?_;rintro e _ ⟨rfl,rfl⟩;refine biE (fun h1=>?_) fun h1=>?_
 ·have h1:zg x.dt a d=true:=h1;exact brT (brT (brT (brT ⟨rb (by show _=(zg x.dt a d||((zg x.ct a d&&isW x d)||(zg x.rm a d||(zg f a d||((zg l a d&&(isR x a&&isR x d))||(zg s a d&&(isW x a&&isW x d)))))));rw [h1];rfl),hbw⟩)))
 ·have h1:zg x.dt a d=false:=h1;refine cmo (zU (zga h.cells (zuD x q c)) h.v.ct hA hD) ?_;rintro e _ ⟨rfl,rfl⟩;refine biE (fun h2=>?_) fun h2=>?_
  ·have h2:zg x.ct a d=true:=h2;refine cmo (jy h hd) ?_;rintro e _ ⟨rfl,rfl⟩;refine biE (fun h3=>?_) fun h3=>?_
   ·have h3:isW x d=true:=h3;exact brT (brT (brT ⟨rb (by show _=(zg x.dt a d||((zg x.ct a d&&isW x d)||(zg x.rm a d||(zg f a d||((zg l a d&&(isR x a&&isR x d))||(zg s a d&&(isW x a&&isW x d)))))));rw [h1,h2,h3];rfl),hbw⟩))
   ·have h3:isW x d=false:=h3;refine cmo (zU (zga h.cells (zqE x q c)) h.v.rm hA hD) ?_;rintro e _ ⟨rfl,rfl⟩;refine biE (fun h4=>?_) fun h4=>?_
    ·have h4:zg x.rm a d=true:=h4;exact brT (brT ⟨rb (by show _=(zg x.dt a d||((zg x.ct a d&&isW x d)||(zg x.rm a d||(zg f a d||((zg l a d&&(isR x a&&isR x d))||(zg s a d&&(isW x a&&isW x d)))))));rw [h1,h2,h3,h4];rfl),hbw⟩)
    ·have h4:zg x.rm a d=false:=h4;refine cmo (zU h.full h.wf hA hD) ?_;rintro e _ ⟨rfl,rfl⟩;refine biE (fun h5=>?_) fun h5=>?_
     ·have h5:zg f a d=true:=h5;exact brT ⟨rb (by show _=(zg x.dt a d||((zg x.ct a d&&isW x d)||(zg x.rm a d||(zg f a d||((zg l a d&&(isR x a&&isR x d))||(zg s a d&&(isW x a&&isW x d)))))));rw [h1,h2,h3,h4,h5];rfl),hbw⟩
     ·have h5:zg f a d=false:=h5;refine cmo (zU h.loads h.wl hA hD) ?_;rintro e _ ⟨rfl,rfl⟩;refine biE (fun h6=>?_) fun h6=>?_
      ·have h6:zg l a d=true:=h6;refine cmo (zeI h ha) ?_;rintro e _ ⟨rfl,rfl⟩;refine biE (fun h7=>?_) fun h7=>?_
       ·have h7:isR x a=true:=h7;refine cmo (zeI h hd) ?_;rintro e _ ⟨rfl,rfl⟩;refine biE (fun h8=>?_) fun h8=>?_
        ·have h8:isR x d=true:=h8;exact⟨rb (by show _=(zg x.dt a d||((zg x.ct a d&&isW x d)||(zg x.rm a d||(zg f a d||((zg l a d&&(isR x a&&isR x d))||(zg s a d&&(isW x a&&isW x d)))))));rw [h1,h2,h3,h4,h5,h6,h7,h8];rfl),hbw⟩
        ·have h8:isR x d=false:=h8;refine cmo (zU h.stores h.ws hA hD) ?_;rintro e _ ⟨rfl,rfl⟩;refine biE (fun h9=>?_) fun h9=>?_
         ·have h9:zg s a d=true:=h9;refine cmo (jy h ha) ?_;rintro e _ ⟨rfl,rfl⟩;refine biE (fun h10=>?_) fun h10=>?_
          ·have h10:isW x a=true:=h10;refine cmo (jy h hd) ?_;rintro e _ ⟨rfl,rfl⟩;exact⟨rb (by show _=(zg x.dt a d||((zg x.ct a d&&isW x d)||(zg x.rm a d||(zg f a d||((zg l a d&&(isR x a&&isR x d))||(zg s a d&&(isW x a&&isW x d)))))));rw [h1,h2,h3,h4,h5,h6,h7,h8,h9,h10];rfl),hbw⟩
          ·have h10:isW x a=false:=h10;exact⟨rb (by show _=(zg x.dt a d||((zg x.ct a d&&isW x d)||(zg x.rm a d||(zg f a d||((zg l a d&&(isR x a&&isR x d))||(zg s a d&&(isW x a&&isW x d)))))));rw [h1,h2,h3,h4,h5,h6,h7,h8,h9,h10];rfl),hbw⟩
         ·have h9:zg s a d=false:=h9;exact brF ⟨rb (by show _=(zg x.dt a d||((zg x.ct a d&&isW x d)||(zg x.rm a d||(zg f a d||((zg l a d&&(isR x a&&isR x d))||(zg s a d&&(isW x a&&isW x d)))))));rw [h1,h2,h3,h4,h5,h6,h7,h8,h9];rfl),hbw⟩
       ·have h7:isR x a=false:=h7;refine brF (cmo (zU h.stores h.ws hA hD) ?_);rintro e _ ⟨rfl,rfl⟩;refine biE (fun h12=>?_) fun h12=>?_
        ·have h12:zg s a d=true:=h12;refine cmo (jy h ha) ?_;rintro e _ ⟨rfl,rfl⟩;refine biE (fun h13=>?_) fun h13=>?_
         ·have h13:isW x a=true:=h13;refine cmo (jy h hd) ?_;rintro e _ ⟨rfl,rfl⟩;exact⟨rb (by show _=(zg x.dt a d||((zg x.ct a d&&isW x d)||(zg x.rm a d||(zg f a d||((zg l a d&&(isR x a&&isR x d))||(zg s a d&&(isW x a&&isW x d)))))));rw [h1,h2,h3,h4,h5,h6,h7,h12,h13];rfl),hbw⟩
         ·have h13:isW x a=false:=h13;exact⟨rb (by show _=(zg x.dt a d||((zg x.ct a d&&isW x d)||(zg x.rm a d||(zg f a d||((zg l a d&&(isR x a&&isR x d))||(zg s a d&&(isW x a&&isW x d)))))));rw [h1,h2,h3,h4,h5,h6,h7,h12,h13];rfl),hbw⟩
        ·have h12:zg s a d=false:=h12;exact brF ⟨rb (by show _=(zg x.dt a d||((zg x.ct a d&&isW x d)||(zg x.rm a d||(zg f a d||((zg l a d&&(isR x a&&isR x d))||(zg s a d&&(isW x a&&isW x d)))))));rw [h1,h2,h3,h4,h5,h6,h7,h12];rfl),hbw⟩
      ·have h6:zg l a d=false:=h6;refine brF (brF (cmo (zU h.stores h.ws hA hD) ?_));rintro e _ ⟨rfl,rfl⟩;refine biE (fun h15=>?_) fun h15=>?_
       ·have h15:zg s a d=true:=h15;refine cmo (jy h ha) ?_;rintro e _ ⟨rfl,rfl⟩;refine biE (fun h16=>?_) fun h16=>?_
        ·have h16:isW x a=true:=h16;refine cmo (jy h hd) ?_;rintro e _ ⟨rfl,rfl⟩;exact⟨rb (by show _=(zg x.dt a d||((zg x.ct a d&&isW x d)||(zg x.rm a d||(zg f a d||((zg l a d&&(isR x a&&isR x d))||(zg s a d&&(isW x a&&isW x d)))))));rw [h1,h2,h3,h4,h5,h6,h15,h16];rfl),hbw⟩
        ·have h16:isW x a=false:=h16;exact⟨rb (by show _=(zg x.dt a d||((zg x.ct a d&&isW x d)||(zg x.rm a d||(zg f a d||((zg l a d&&(isR x a&&isR x d))||(zg s a d&&(isW x a&&isW x d)))))));rw [h1,h2,h3,h4,h5,h6,h15,h16];rfl),hbw⟩
       ·have h15:zg s a d=false:=h15;exact brF ⟨rb (by show _=(zg x.dt a d||((zg x.ct a d&&isW x d)||(zg x.rm a d||(zg f a d||((zg l a d&&(isR x a&&isR x d))||(zg s a d&&(isW x a&&isW x d)))))));rw [h1,h2,h3,h4,h5,h6,h15];rfl),hbw⟩
  ·have h2:zg x.ct a d=false:=h2;refine brF (cmo (zU (zga h.cells (zqE x q c)) h.v.rm hA hD) ?_);rintro e _ ⟨rfl,rfl⟩;refine biE (fun h18=>?_) fun h18=>?_
   ·have h18:zg x.rm a d=true:=h18;exact brT (brT ⟨rb (by show _=(zg x.dt a d||((zg x.ct a d&&isW x d)||(zg x.rm a d||(zg f a d||((zg l a d&&(isR x a&&isR x d))||(zg s a d&&(isW x a&&isW x d)))))));rw [h1,h2,h18];rfl),hbw⟩)
   ·have h18:zg x.rm a d=false:=h18;refine cmo (zU h.full h.wf hA hD) ?_;rintro e _ ⟨rfl,rfl⟩;refine biE (fun h19=>?_) fun h19=>?_
    ·have h19:zg f a d=true:=h19;exact brT ⟨rb (by show _=(zg x.dt a d||((zg x.ct a d&&isW x d)||(zg x.rm a d||(zg f a d||((zg l a d&&(isR x a&&isR x d))||(zg s a d&&(isW x a&&isW x d)))))));rw [h1,h2,h18,h19];rfl),hbw⟩
    ·have h19:zg f a d=false:=h19;refine cmo (zU h.loads h.wl hA hD) ?_;rintro e _ ⟨rfl,rfl⟩;refine biE (fun h20=>?_) fun h20=>?_
     ·have h20:zg l a d=true:=h20;refine cmo (zeI h ha) ?_;rintro e _ ⟨rfl,rfl⟩;refine biE (fun h21=>?_) fun h21=>?_
      ·have h21:isR x a=true:=h21;refine cmo (zeI h hd) ?_;rintro e _ ⟨rfl,rfl⟩;refine biE (fun h22=>?_) fun h22=>?_
       ·have h22:isR x d=true:=h22;exact⟨rb (by show _=(zg x.dt a d||((zg x.ct a d&&isW x d)||(zg x.rm a d||(zg f a d||((zg l a d&&(isR x a&&isR x d))||(zg s a d&&(isW x a&&isW x d)))))));rw [h1,h2,h18,h19,h20,h21,h22];rfl),hbw⟩
       ·have h22:isR x d=false:=h22;refine cmo (zU h.stores h.ws hA hD) ?_;rintro e _ ⟨rfl,rfl⟩;refine biE (fun h23=>?_) fun h23=>?_
        ·have h23:zg s a d=true:=h23;refine cmo (jy h ha) ?_;rintro e _ ⟨rfl,rfl⟩;refine biE (fun h24=>?_) fun h24=>?_
         ·have h24:isW x a=true:=h24;refine cmo (jy h hd) ?_;rintro e _ ⟨rfl,rfl⟩;exact⟨rb (by show _=(zg x.dt a d||((zg x.ct a d&&isW x d)||(zg x.rm a d||(zg f a d||((zg l a d&&(isR x a&&isR x d))||(zg s a d&&(isW x a&&isW x d)))))));rw [h1,h2,h18,h19,h20,h21,h22,h23,h24];rfl),hbw⟩
         ·have h24:isW x a=false:=h24;exact⟨rb (by show _=(zg x.dt a d||((zg x.ct a d&&isW x d)||(zg x.rm a d||(zg f a d||((zg l a d&&(isR x a&&isR x d))||(zg s a d&&(isW x a&&isW x d)))))));rw [h1,h2,h18,h19,h20,h21,h22,h23,h24];rfl),hbw⟩
        ·have h23:zg s a d=false:=h23;exact brF ⟨rb (by show _=(zg x.dt a d||((zg x.ct a d&&isW x d)||(zg x.rm a d||(zg f a d||((zg l a d&&(isR x a&&isR x d))||(zg s a d&&(isW x a&&isW x d)))))));rw [h1,h2,h18,h19,h20,h21,h22,h23];rfl),hbw⟩
      ·have h21:isR x a=false:=h21;refine brF (cmo (zU h.stores h.ws hA hD) ?_);rintro e _ ⟨rfl,rfl⟩;refine biE (fun h26=>?_) fun h26=>?_
       ·have h26:zg s a d=true:=h26;refine cmo (jy h ha) ?_;rintro e _ ⟨rfl,rfl⟩;refine biE (fun h27=>?_) fun h27=>?_
        ·have h27:isW x a=true:=h27;refine cmo (jy h hd) ?_;rintro e _ ⟨rfl,rfl⟩;exact⟨rb (by show _=(zg x.dt a d||((zg x.ct a d&&isW x d)||(zg x.rm a d||(zg f a d||((zg l a d&&(isR x a&&isR x d))||(zg s a d&&(isW x a&&isW x d)))))));rw [h1,h2,h18,h19,h20,h21,h26,h27];rfl),hbw⟩
        ·have h27:isW x a=false:=h27;exact⟨rb (by show _=(zg x.dt a d||((zg x.ct a d&&isW x d)||(zg x.rm a d||(zg f a d||((zg l a d&&(isR x a&&isR x d))||(zg s a d&&(isW x a&&isW x d)))))));rw [h1,h2,h18,h19,h20,h21,h26,h27];rfl),hbw⟩
       ·have h26:zg s a d=false:=h26;exact brF ⟨rb (by show _=(zg x.dt a d||((zg x.ct a d&&isW x d)||(zg x.rm a d||(zg f a d||((zg l a d&&(isR x a&&isR x d))||(zg s a d&&(isW x a&&isW x d)))))));rw [h1,h2,h18,h19,h20,h21,h26];rfl),hbw⟩
     ·have h20:zg l a d=false:=h20;refine brF (brF (cmo (zU h.stores h.ws hA hD) ?_));rintro e _ ⟨rfl,rfl⟩;refine biE (fun h29=>?_) fun h29=>?_
      ·have h29:zg s a d=true:=h29;refine cmo (jy h ha) ?_;rintro e _ ⟨rfl,rfl⟩;refine biE (fun h30=>?_) fun h30=>?_
       ·have h30:isW x a=true:=h30;refine cmo (jy h hd) ?_;rintro e _ ⟨rfl,rfl⟩;exact⟨rb (by show _=(zg x.dt a d||((zg x.ct a d&&isW x d)||(zg x.rm a d||(zg f a d||((zg l a d&&(isR x a&&isR x d))||(zg s a d&&(isW x a&&isW x d)))))));rw [h1,h2,h18,h19,h20,h29,h30];rfl),hbw⟩
       ·have h30:isW x a=false:=h30;exact⟨rb (by show _=(zg x.dt a d||((zg x.ct a d&&isW x d)||(zg x.rm a d||(zg f a d||((zg l a d&&(isR x a&&isR x d))||(zg s a d&&(isW x a&&isW x d)))))));rw [h1,h2,h18,h19,h20,h29,h30];rfl),hbw⟩
      ·have h29:zg s a d=false:=h29;exact brF ⟨rb (by show _=(zg x.dt a d||((zg x.ct a d&&isW x d)||(zg x.rm a d||(zg f a d||((zg l a d&&(isR x a&&isR x d))||(zg s a d&&(isW x a&&isW x d)))))));rw [h1,h2,h18,h19,h20,h29];rfl),hbw⟩
end
abbrev zc9:List Value:=[.nilFunc,.func (.func 207) #[] #[],.func (.func 208) #[] #[],.func (.func 209) #[] #[],.func (.func 213) #[] #[],.func (.func 214) #[] #[],.func (.func 216) #[] #[]]
section
variable {b c:Nat} {x:ExD} {q:OA} {w:Wd} {f l s:RelD}
theorem zrP:CB 169 #[] w (.agg zc9.toArray):=by
 refine qa 8 [] (.c .p .p) Tryz.func169 ?_;obtain⟨L,hL⟩:=nm (w.heap.size);refine⟨Unit,fun _=>⟨[(0,At0 L)],[]⟩,fun _ X=>X.heap[L]?=some (.cells #[.nilFunc,.nilFunc,.nilFunc,.nilFunc,.nilFunc,.nilFunc,.nilFunc] 268 (0,0))/\Bw w X,⟨(),⟨.cons (by rw [hL];rfl) .nil,rfl⟩,by rw [hL];exact zz w _,(zba w _)⟩,?_⟩;rintro _ X ⟨f0,hbX⟩;refine⟨[.func (.func 207) #[] #[]],by kernel_rfl,?_⟩;refine⟨[.func (.func 208) #[] #[]],by kernel_rfl,?_⟩;refine⟨[.func (.func 209) #[] #[]],by kernel_rfl,?_⟩;refine⟨[.func (.func 213) #[] #[]],by kernel_rfl,?_⟩;refine⟨[.func (.func 214) #[] #[]],by kernel_rfl,?_⟩;refine⟨[.func (.func 216) #[] #[]],by kernel_rfl,?_⟩;refine⟨zc9,by kernel_rfl,?_⟩;refine zr (v := .agg zc9.toArray) zwz f0 rfl rfl rfl ?_;exact⟨zc9,rfl,za (zm f0),rfl,zj hbX (by omega) _⟩
theorem zel {S Rb Mb Sv g a d:Nat} {m:UInt8} {K:Bool} (hs:ScnV w S x q c f l s) (fSv:w.heap[Sv]?=some (.cells #[At0 S] 261 (0,0))) (fR:w.heap[Rb]?=some (.cells zc9.toArray 268 (0,0))) (fM:w.heap[Mb]?=some (.cells #[u8 m] 5 (0,0)))
  (hm7:m.toNat<7) (hm:zc9[m.toNat]?=some (.func (.func g) #[] #[])) (hok:jP (sg 0) g=true) (hK:∀ X,Bw w X->Calls PG g #[At0 S,i64 (a:Nat),i64 (d:Nat)] X fun e Y=>e = .returned (.bool K)/\Bw X Y) (ha:a<x.ev.length) (hd:d<x.ev.length) :
  CB 170 #[i64 (a:Nat),i64 (d:Nat),At0 Sv,At0 Rb,At0 Mb] w (.bool (zg x.po a d&&(zaf x a&&(zaf x d&&K)))):=by
 refine zJ 47 [i64 (a:Nat),i64 (d:Nat),At0 Sv,At0 Rb,At0 Mb] Tryz.func170 ?_;have hn:=hs.v.n;have fx:=hs.cells;obtain⟨bq,oq,hqe,hb,hat⟩:=zbG hs.v.ev ha;obtain⟨bq2,oq2,hqe2,hb2,hat2⟩:=zbG hs.v.ev hd;rw [hqe] at hqe2;simp only [KZ,Uw,Gr] at hqe2;rw [<- hqe2.1,<- hqe2.2] at hat2;have hpo:=hs.v.po;subst hqe;have dw:Bw w w.drew:=(Gj _ _).drew;refine DrawE.ord [] [0,1,2,3,4,5,6,7,8,9,10,11,12,13,14,15,16,17,18,19,20,21,22,23,24,25,26,27,28,29,30,31,32,33,34,35,36,37,38,39] (by kernel_rfl) ?_;refine⟨At0 S,zc (za (hdr fSv)) (i:=0) rfl,?_⟩;refine cmo (zU (zga (zt dw fx) (zqF x _ c)) hpo (by omega) (by omega)) ?_;rintro e _ ⟨rfl,rfl⟩;refine⟨Gj _ _,?_⟩;refine biE (fun h1=>?_) fun h1=>?_
 ·have h1:zg x.po a d=true:=h1;refine⟨At0 S,zc (za (hdr fSv)) (i:=0) rfl,?_⟩;refine⟨_,jq (zt dw fx),?_⟩;refine⟨a,rfl,ha,?_⟩;refine⟨evE.enc (evA x a),rfl,zt dw hat,nL hb dw.size,?_⟩;refine cmo zfN ?_;rintro e X ⟨rfl,hbX⟩;refine⟨hbX,?_⟩;have bX:=dw.trans hbX;rw [zjL];refine biE (fun h2=>?_) fun h2=>?_
  ·have h2:zaf x a=true:=h2;refine⟨At0 S,zc (za (zb bX fSv)) (i:=0) rfl,?_⟩;refine⟨_,jq (zt bX fx),?_⟩;refine⟨d,rfl,hd,?_⟩;refine⟨evE.enc (evA x d),rfl,zt bX hat2,nL hb bX.size,?_⟩;refine cmo zfN ?_;rintro e Y ⟨rfl,hbY⟩;refine⟨hbY,?_⟩;have bY:=zst bX hbY;rw [zjL];refine biE (fun h3=>?_) fun h3=>?_
   ·have h3:zaf x d=true:=h3;refine⟨u8 m,zc (za (zb bY fM)) (i:=0) rfl,?_⟩;refine⟨m.toNat,rfl,hm7,?_⟩;refine⟨.func (.func g) #[] #[],by have:=zc (za (zb bY fR)) (i:=m.toNat) (v := .func (.func g) #[] #[]) hm;rw [Gf];exact this,?_⟩;refine⟨At0 S,zc (za (zb bY fSv)) (i:=0) rfl,?_⟩;refine zhV hok (hK Y bY) ?_;rintro e Z ⟨rfl,hbZ⟩;refine⟨_,rfl,hbZ,?_⟩;exact⟨rb (by rw [h1,h2,h3];rfl),(zst bY hbZ)⟩
   ·have h3:zaf x d=false:=h3;exact⟨rb (by rw [h1,h2,h3];rfl),bY⟩
  ·have h2:zaf x a=false:=h2;refine brF ?_;exact⟨rb (by rw [h1,h2];rfl),bX⟩
 ·have h1:zg x.po a d=false:=h1;refine brF ?_;refine brF ?_;exact⟨rb (by rw [h1];rfl),dw⟩
theorem zkM {m:UInt8} (h:j3 m.toNat=true):m=1\/m=2\/m=3\/m=4\/m=5\/m=6:=by
 unfold j3 at h;rw [bAT,dE,dE] at h;simp only [<- Uh];show m.toNat=1\/m.toNat=2\/m.toNat=3\/m.toNat=4\/m.toNat=5\/m.toNat=6;omega
theorem zsm {S Rb Mb Sv a d:Nat} {m:UInt8} (hk:j3 m.toNat=true) (hs:ScnV w S x q c f l s) (fSv:w.heap[Sv]?=some (.cells #[At0 S] 261 (0,0))) (fR:w.heap[Rb]?=some (.cells zc9.toArray 268 (0,0))) (fM:w.heap[Mb]?=some (.cells #[u8 m] 5 (0,0)))
  (ha:a<x.ev.length) (hd:d<x.ev.length) :
  CB 170 #[i64 (a:Nat),i64 (d:Nat),At0 Sv,At0 Rb,At0 Mb] w (.bool (zg x.po a d&&(zaf x a&&(zaf x d&&zcb m.toNat x f l s a d)))):=by
 rcases zkM hk with rfl | rfl | rfl | rfl | rfl | rfl
 ·exact zel (g:=207) hs fSv fR fM (by decide) rfl (by kernel_rfl) (fun X hb=>zrV) ha hd
 ·exact zel (g:=208) hs fSv fR fM (by decide) rfl (by kernel_rfl) (fun X hb=>zrU) ha hd
 ·exact zel (g:=209) hs fSv fR fM (by decide) rfl (by kernel_rfl) (fun X hb=>zrT (hs.below hb) ha hd) ha hd
 ·exact zel (g:=213) hs fSv fR fM (by decide) rfl (by kernel_rfl) (fun X hb=>zrS (hs.below hb) ha hd) ha hd
 ·exact zel (g:=214) hs fSv fR fM (by decide) rfl (by kernel_rfl) (fun X hb=>zrR (hs.below hb) ha hd) ha hd
 ·exact zel (g:=216) hs fSv fR fM (by decide) rfl (by kernel_rfl) (fun X hb=>zrQ (hs.below hb) ha hd) ha hd
theorem zjf {X:Wd} {S o:Nat} {T:TypeId} {A Z:List Value} {r0 r:RelD} (h:X.heap[S]?=some (.cells (A++(zd r0++Z)).toArray T (0,0))) (hA:A.length=o) {K:Wd->Prop}
  (k:∀ Y,Y.heap[S]?=some (.cells (A++(zd r++Z)).toArray T (0,0))->X.grownBy Y (some S)->Y.heap.size=X.heap.size->K Y) :
  SatR ((storeVar 30 ⟨S,0+o,none⟩ (.agg (zd r).toArray)).run PG X) fun _ w'=>K w':=by
 rw [UY];refine jk k30 h (o:=o) (v := .agg (zd r).toArray) (ze _) (by show o+(zd r).length<=(A++(zd r0++Z)).length;rw [lap,lap,ze,ze];omega) (zD _) fun Y fY gY sY=>k Y (fY.trans ?_) gY sY;show some (Obj.cells ((A++(zd r0++Z)).take o++zd r++(A++(zd r0++Z)).drop (o+(zd r).length)).toArray T (0,0))=_;congr 3;rw [<- hA,List.take_left,ze,KO,<- Un,Uo,<- ze r0,Uo]
theorem zul {m:UInt8} (hk:j3 m.toNat=true) (fx:ExH w b x q c) (hv:ExV w x q) (hT:Tz64M w):CB 121 #[u8 m,At0 b] w (.agg (zd (qV m.toNat x)).toArray):=by
 refine qa 35 [u8 m,At0 b] (.c .p (.c .p (.c .p (.c .p (.c .p .p))))) Tryz.func121 ?_;obtain⟨L,hL⟩:=nm (w.heap.size);have hn:=hv.n;refine⟨Unit,fun _=>⟨[(1,At0 b),(2,At0 L),(4,At0 (L+1))],[]⟩,fun _ X=>X.heap[L]?=some (.cells #[u8 m] 5 (0,0))/\zN X (L+1) zp/\X.heap.size=L+2/\Bw w X,?_,?_⟩
 ·have s1:=wz w (.cells #[u8 m] 5);have h2:=zz (w.alloc (.cells #[u8 m] 5)) (.cells (zd zp).toArray 30);have s2:=wz (w.alloc (.cells #[u8 m] 5)) (.cells (zd zp).toArray 30);rw [s1] at h2 s2;have b1:Bw w (w.alloc (.cells #[u8 m] 5)):=zba w _;exact⟨(),⟨.cons rfl (.cons (by rw [hL];rfl) (.cons (by rw [hL,<- s1];rfl) .nil)),rfl⟩,by rw [hL];exact qm _ (zz w _),by rw [hL];exact h2,by rw [hL];exact s2,b1.alloc b1.size _⟩
 rintro _ X ⟨fM,f0,sX,hbX⟩;have fX:=zb hbX fx;refine⟨Unit,fun _=>⟨[(1,At0 b),(2,At0 L),(4,At0 (L+1)),(5,At0 (L+3))],[]⟩,fun _ Y=>Y.heap[L+2]?=some (.cells (exC x q c++(zd zp++(zd zp++zd zp))).toArray 263 (0,0))/\Y.heap[L+3]?=some (.cells #[At0 (L+2)] 261 (0,0))/\Y.heap.size=L+4/\Bw X Y,?_,?_⟩
 ·refine⟨exC x q c,zI _ _ _,za fX,hlt fX,?_⟩;refine⟨exC x q c++(zd zp++(zd zp++zd zp)),by kernel_rfl,?_⟩;have s3:=wz X (.cells (exC x q c++(zd zp++(zd zp++zd zp))).toArray 263);refine zn (X:=X.alloc (.cells (exC x q c++(zd zp++(zd zp++zd zp))).toArray 263)) (v := .pointer (some ⟨X.heap.size,0,none⟩)) zxr rfl rfl rfl fun Z hbZ fZ sZ=>?_;rw [s3] at fZ sZ;rw [sX] at fZ sZ s3;have b1:Bw X (X.alloc (.cells (exC x q c++(zd zp++(zd zp++zd zp))).toArray 263)):=zba X _;refine⟨(),⟨.cons rfl (.cons rfl (.cons rfl (.cons (by rw [<- s3];rfl) .nil))),rfl⟩,?_,fZ,sZ,(zst b1 hbZ)⟩;refine zb hbZ ?_;rw [<- sX];exact zz X _
 rintro _ Y ⟨fS,fP,sY,hbY⟩;have hbwY:=zst hbX hbY;have fY:=zb hbwY fx;replace fM:=zb hbY fM;replace f0:=zb hbY f0;have hwX:=hbX.size;have hbL:b<L:=by rw [hL];exact hlt fx
 refine⟨Unit,fun _=>⟨[(1,At0 b),(2,At0 L),(4,At0 (L+1)),(5,At0 (L+3))],[]⟩,fun _ Z=>ScnV Z (L+2) x q c (zB x 3) (zB x 4) (zB x 5)/\Z.heap[L+3]?=some (.cells #[At0 (L+2)] 261 (0,0))/\Z.heap[L]?=some (.cells #[u8 m] 5 (0,0))/\zN Z (L+1) zp/\ExH Z b x q c/\L+4<=Z.heap.size/\Bw w Z,?_,?_⟩
 ·have dY:Bw Y Y.drew:=(Gj _ _).drew;obtain⟨Y1,hY1⟩:=nm (Y.drew);have bY1:Bw Y Y1:=by rw [hY1];exact dY
  have ld0:∀ {W},Bw Y W->W.cell? ⟨L+3,0,none⟩=some (At0 (L+2)):=fun hW=>by
   have h2:=zc (za (zb hW fP)) (i:=0) (v:=At0 (L+2)) rfl;exact h2
  have fen:∀ (md:UInt8) {W},Bw Y W->CB 168 #[At0 b,u8 md] W (.agg (zd (zB x md)).toArray):=fun md {W} hW =>
   have h2:=zst hbwY hW
   zqB (zb h2 fx) (hv.below h2) (hT.below h2)
  have ld1:∀ W,(∃ C,Bw Y C/\C.grownBy W (some (L+2)))->W.cell? ⟨L+3,0,none⟩=some (At0 (L+2)):=fun W ⟨C,bC,hW⟩=>by
   have fPC:=zb bC fP;have:=(hW.block (L+3) (hlt fPC) (by simp)).trans fPC;have h2:=zc (za this) (i:=0) (v:=At0 (L+2)) rfl;exact h2
  have s1:∀ {C},Bw Y C->∀ {K:Wd->Prop},(∀ D,(D.heap[L+2]?=some (.cells ((exC x q c++zd (zB x 3))++(zd zp++zd zp)).toArray 263 (0,0))/\∃ C,Bw Y C/\C.grownBy D (some (L+2)))->K D)->SatR ((storeVar 30 ⟨L+2,0+333,none⟩ (.agg (zd (zB x 3)).toArray)).run PG C) fun _ w'=>K w':=fun {C} bC {K} k =>
   zjf (o:=333) (A:=exC x q c) (Z:=zd zp++zd zp) (r:=zB x 3) (zb bC fS) (zI _ _ _) fun D fD gD sD=>k D ⟨by rw [fD];simp only [KO],C,bC,gD⟩
  have s2:∀ D,(D.heap[L+2]?=some (.cells ((exC x q c++zd (zB x 3))++(zd zp++zd zp)).toArray 263 (0,0))/\∃ C,Bw Y C/\C.grownBy D (some (L+2)))->∀ {K:Wd->Prop},(∀ F,(F.heap[L+2]?=some (.cells ((exC x q c++(zd (zB x 3)++zd (zB x 4)))++(zd zp++[])).toArray 263 (0,0))/\∃ C,Bw Y C/\C.grownBy F (some (L+2)))->K F)->SatR ((storeVar 30 ⟨L+2,0+382,none⟩ (.agg (zd (zB x 4)).toArray)).run PG D) fun _ w'=>K w':=fun D ⟨fD,C,bC,gD⟩ {K} k =>
   zjf (o:=382) (A:=exC x q c++zd (zB x 3)) (Z:=zd zp) (r:=zB x 4) fD (by rw [lap,zI,ze]) fun F fF gF sF=>k F ⟨by rw [fF];simp only [KO,QM],C,bC,zh gD gF⟩
  have pw:∀ md,zG (zB x md).to:=fun md=>zcO (zcO hv.po fun i hi=>by
   unfold idR;refine za0 (fun i _ h48=>?_) i hi;exact KE Qx (z6 (by omega))) hv.po
  have s3:∀ F,(F.heap[L+2]?=some (.cells ((exC x q c++(zd (zB x 3)++zd (zB x 4)))++(zd zp++[])).toArray 263 (0,0))/\∃ C,Bw Y C/\C.grownBy F (some (L+2)))->∀ {K:Wd->Prop},(∀ G,(ScnV G (L+2) x q c (zB x 3) (zB x 4) (zB x 5)/\G.heap[L+3]?=some (.cells #[At0 (L+2)] 261 (0,0))/\G.heap[L]?=some (.cells #[u8 m] 5 (0,0))/\zN G (L+1) zp/\ExH G b x q c/\L+4<=G.heap.size/\Bw w G)->K G)->SatR ((storeVar 30 ⟨L+2,0+431,none⟩ (.agg (zd (zB x 5)).toArray)).run PG F) fun _ w'=>K w':=fun F ⟨fF,C,bC,gF⟩ {K} k =>
   zjf (o:=431) (A:=exC x q c++(zd (zB x 3)++zd (zB x 4))) (Z:=[]) (r:=zB x 5) fF (by rw [lap,lap,zI,ze,ze]) fun G fG gG sG=>k G (by
    have gCG:C.grownBy G (some (L+2)):=zh gF gG;have bwC:=zst hbwY bC;have bCG:Below w.heap.size C G:=zq gCG bwC.size (by omega);have bwG:Bw w G:=bwC.trans bCG;have keep:∀ {j:Nat} {o:Obj},j≠L+2->Y.heap[j]?=some o->G.heap[j]?=some o:=fun {j o} hj h=>by
     have h2:=zb bC h;exact (gCG.block j (hlt h2) (by simpa using hj)).trans h2
    refine⟨⟨?_,hv.below bwG,pw 3,pw 4,pw 5⟩,keep (by omega) fP,keep (by omega) fM,keep (by omega) f0,keep (by omega) fY,by have:=bC.size;have:=gCG.size;omega,bwG⟩;rw [fG];simp only [KO,QM])
  refine DrawE.treeR [11,14,17] (.op 0 (.op 3 (.op 5 (.op 7 (.alt (.op 4 (.alt (.op 6 (.alt (.op 8 (.op 9 (.op 10 (.alt (.op 11 (.alt (.op 1 (.op 12 (.op 13 (.alt (.op 14 (.op 2 (.op 15 (.op 16 (.op 17 (.nil)))))) (.op 2 (.op 14 (.op 15 (.op 16 (.op 17 (.nil)))))))))) (.op 2 (.op 1 (.op 12 (.op 13 (.op 14 (.op 15 (.op 16 (.op 17 (.nil))))))))))) (.alt (.op 1 (.alt (.op 11 (.op 12 (.op 13 (.alt (.op 14 (.op 2 (.op 15 (.op 16 (.op 17 (.nil)))))) (.op 2 (.op 14 (.op 15 (.op 16 (.op 17 (.nil)))))))))) (.op 2 (.op 11 (.op 12 (.op 13 (.op 14 (.op 15 (.op 16 (.op 17 (.nil))))))))))) (.op 2 (.alt (.op 11 (.op 1 (.op 12 (.op 13 (.op 14 (.op 15 (.op 16 (.op 17 (.nil))))))))) (.op 1 (.op 11 (.op 12 (.op 13 (.op 14 (.op 15 (.op 16 (.op 17 (.nil)))))))))))))))) (.alt (.op 1 (.alt (.op 8 (.op 9 (.op 10 (.alt (.op 11 (.op 12 (.op 13 (.alt (.op 14 (.op 2 (.op 15 (.op 16 (.op 17 (.nil)))))) (.op 2 (.op 14 (.op 15 (.op 16 (.op 17 (.nil)))))))))) (.op 2 (.op 11 (.op 12 (.op 13 (.op 14 (.op 15 (.op 16 (.op 17 (.nil))))))))))))) (.op 2 (.op 8 (.op 9 (.op 10 (.op 11 (.op 12 (.op 13 (.op 14 (.op 15 (.op 16 (.op 17 (.nil)))))))))))))) (.op 2 (.alt (.op 8 (.op 9 (.op 10 (.alt (.op 11 (.op 1 (.op 12 (.op 13 (.op 14 (.op 15 (.op 16 (.op 17 (.nil))))))))) (.op 1 (.op 11 (.op 12 (.op 13 (.op 14 (.op 15 (.op 16 (.op 17 (.nil))))))))))))) (.op 1 (.op 8 (.op 9 (.op 10 (.op 11 (.op 12 (.op 13 (.op 14 (.op 15 (.op 16 (.op 17 (.nil))))))))))))))))) (.alt (.op 1 (.alt (.op 6 (.alt (.op 8 (.op 9 (.op 10 (.alt (.op 11 (.op 12 (.op 13 (.alt (.op 14 (.op 2 (.op 15 (.op 16 (.op 17 (.nil)))))) (.op 2 (.op 14 (.op 15 (.op 16 (.op 17 (.nil)))))))))) (.op 2 (.op 11 (.op 12 (.op 13 (.op 14 (.op 15 (.op 16 (.op 17 (.nil))))))))))))) (.op 2 (.op 8 (.op 9 (.op 10 (.op 11 (.op 12 (.op 13 (.op 14 (.op 15 (.op 16 (.op 17 (.nil)))))))))))))) (.op 2 (.op 6 (.op 8 (.op 9 (.op 10 (.op 11 (.op 12 (.op 13 (.op 14 (.op 15 (.op 16 (.op 17 (.nil))))))))))))))) (.op 2 (.alt (.op 6 (.alt (.op 8 (.op 9 (.op 10 (.alt (.op 11 (.op 1 (.op 12 (.op 13 (.op 14 (.op 15 (.op 16 (.op 17 (.nil))))))))) (.op 1 (.op 11 (.op 12 (.op 13 (.op 14 (.op 15 (.op 16 (.op 17 (.nil))))))))))))) (.op 1 (.op 8 (.op 9 (.op 10 (.op 11 (.op 12 (.op 13 (.op 14 (.op 15 (.op 16 (.op 17 (.nil)))))))))))))) (.op 1 (.op 6 (.op 8 (.op 9 (.op 10 (.op 11 (.op 12 (.op 13 (.op 14 (.op 15 (.op 16 (.op 17 (.nil)))))))))))))))))) (.alt (.op 1 (.alt (.op 4 (.alt (.op 6 (.alt (.op 8 (.op 9 (.op 10 (.alt (.op 11 (.op 12 (.op 13 (.alt (.op 14 (.op 2 (.op 15 (.op 16 (.op 17 (.nil)))))) (.op 2 (.op 14 (.op 15 (.op 16 (.op 17 (.nil)))))))))) (.op 2 (.op 11 (.op 12 (.op 13 (.op 14 (.op 15 (.op 16 (.op 17 (.nil))))))))))))) (.op 2 (.op 8 (.op 9 (.op 10 (.op 11 (.op 12 (.op 13 (.op 14 (.op 15 (.op 16 (.op 17 (.nil)))))))))))))) (.op 2 (.op 6 (.op 8 (.op 9 (.op 10 (.op 11 (.op 12 (.op 13 (.op 14 (.op 15 (.op 16 (.op 17 (.nil))))))))))))))) (.op 2 (.op 4 (.op 6 (.op 8 (.op 9 (.op 10 (.op 11 (.op 12 (.op 13 (.op 14 (.op 15 (.op 16 (.op 17 (.nil)))))))))))))))) (.op 2 (.alt (.op 4 (.alt (.op 6 (.alt (.op 8 (.op 9 (.op 10 (.alt (.op 11 (.op 1 (.op 12 (.op 13 (.op 14 (.op 15 (.op 16 (.op 17 (.nil))))))))) (.op 1 (.op 11 (.op 12 (.op 13 (.op 14 (.op 15 (.op 16 (.op 17 (.nil))))))))))))) (.op 1 (.op 8 (.op 9 (.op 10 (.op 11 (.op 12 (.op 13 (.op 14 (.op 15 (.op 16 (.op 17 (.nil)))))))))))))) (.op 1 (.op 6 (.op 8 (.op 9 (.op 10 (.op 11 (.op 12 (.op 13 (.op 14 (.op 15 (.op 16 (.op 17 (.nil))))))))))))))) (.op 1 (.op 4 (.op 6 (.op 8 (.op 9 (.op 10 (.op 11 (.op 12 (.op 13 (.op 14 (.op 15 (.op 16 (.op 17 (.nil)))))))))))))))))))))) (by kernel_rfl) ?_;rw [<- hY1];refine⟨At0 (L+2),ld0 bY1,?_⟩;refine Gp ?_ (Gp ?_ ?_)
  ·refine cmo (fen 3 bY1) ?_;rintro e A ⟨rfl,hbA⟩;refine⟨hbA,?_⟩;have bA:=zst bY1 hbA;refine Gp ?_ (Gp ?_ ?_)
   ·refine cmo (fen 4 bA) ?_;rintro e B ⟨rfl,hbB⟩;refine⟨hbB,?_⟩;have bB:=zst bA hbB;refine Gp ?_ (Gp ?_ ?_)
    ·refine cmo (fen 5 bB) ?_;rintro e C ⟨rfl,hbC⟩;refine⟨hbC,?_⟩;have bC:=zst bB hbC;refine Gp ?_ (Gp ?_ ?_)
     ·refine s1 bC fun D hD=>?_;refine Gp ?_ ?_
      ·refine⟨At0 (L+2),ld1 D hD.2,?_⟩;refine Gp ?_ ?_
       ·refine s2 D hD fun F hF=>?_;refine⟨At0 (L+2),ld1 F hF.2,?_⟩;refine s3 F hF fun G hG=>?_;exact⟨(),(cvE rfl rfl),hG⟩
       ·refine⟨At0 (L+2),ld1 D hD.2,?_⟩;refine s2 D hD fun F hF=>?_;refine s3 F hF fun G hG=>?_;exact⟨(),(cvE rfl rfl),hG⟩
      ·refine⟨At0 (L+2),ld1 D hD.2,?_⟩;refine⟨At0 (L+2),ld1 D hD.2,?_⟩;refine s2 D hD fun F hF=>?_;refine s3 F hF fun G hG=>?_;exact⟨(),(cvE rfl rfl),hG⟩
     ·refine⟨At0 (L+2),ld0 bC,?_⟩;refine Gp ?_ ?_
      ·refine s1 bC fun D hD=>?_;refine Gp ?_ ?_
       ·refine s2 D hD fun F hF=>?_;refine⟨At0 (L+2),ld1 F hF.2,?_⟩;refine s3 F hF fun G hG=>?_;exact⟨(),(cvE rfl rfl),hG⟩
       ·refine⟨At0 (L+2),ld1 D hD.2,?_⟩;refine s2 D hD fun F hF=>?_;refine s3 F hF fun G hG=>?_;exact⟨(),(cvE rfl rfl),hG⟩
      ·refine⟨At0 (L+2),ld0 bC,?_⟩;refine s1 bC fun D hD=>?_;refine s2 D hD fun F hF=>?_;refine s3 F hF fun G hG=>?_;exact⟨(),(cvE rfl rfl),hG⟩
     ·refine⟨At0 (L+2),ld0 bC,?_⟩;refine Gp ?_ ?_
      ·refine s1 bC fun D hD=>?_;refine⟨At0 (L+2),ld1 D hD.2,?_⟩;refine s2 D hD fun F hF=>?_;refine s3 F hF fun G hG=>?_;exact⟨(),(cvE rfl rfl),hG⟩
      ·refine⟨At0 (L+2),ld0 bC,?_⟩;refine s1 bC fun D hD=>?_;refine s2 D hD fun F hF=>?_;refine s3 F hF fun G hG=>?_;exact⟨(),(cvE rfl rfl),hG⟩
    ·refine⟨At0 (L+2),ld0 bB,?_⟩;refine Gp ?_ ?_
     ·refine cmo (fen 5 bB) ?_;rintro e C ⟨rfl,hbC⟩;refine⟨hbC,?_⟩;have bC:=zst bB hbC;refine Gp ?_ ?_
      ·refine s1 bC fun D hD=>?_;refine Gp ?_ ?_
       ·refine s2 D hD fun F hF=>?_;refine⟨At0 (L+2),ld1 F hF.2,?_⟩;refine s3 F hF fun G hG=>?_;exact⟨(),(cvE rfl rfl),hG⟩
       ·refine⟨At0 (L+2),ld1 D hD.2,?_⟩;refine s2 D hD fun F hF=>?_;refine s3 F hF fun G hG=>?_;exact⟨(),(cvE rfl rfl),hG⟩
      ·refine⟨At0 (L+2),ld0 bC,?_⟩;refine s1 bC fun D hD=>?_;refine s2 D hD fun F hF=>?_;refine s3 F hF fun G hG=>?_;exact⟨(),(cvE rfl rfl),hG⟩
     ·refine⟨At0 (L+2),ld0 bB,?_⟩;refine cmo (fen 5 bB) ?_;rintro e C ⟨rfl,hbC⟩;refine⟨hbC,?_⟩;have bC:=zst bB hbC;refine s1 bC fun D hD=>?_;refine s2 D hD fun F hF=>?_;refine s3 F hF fun G hG=>?_;exact⟨(),(cvE rfl rfl),hG⟩
    ·refine⟨At0 (L+2),ld0 bB,?_⟩;refine Gp ?_ ?_
     ·refine cmo (fen 5 bB) ?_;rintro e C ⟨rfl,hbC⟩;refine⟨hbC,?_⟩;have bC:=zst bB hbC;refine Gp ?_ ?_
      ·refine s1 bC fun D hD=>?_;refine⟨At0 (L+2),ld1 D hD.2,?_⟩;refine s2 D hD fun F hF=>?_;refine s3 F hF fun G hG=>?_;exact⟨(),(cvE rfl rfl),hG⟩
      ·refine⟨At0 (L+2),ld0 bC,?_⟩;refine s1 bC fun D hD=>?_;refine s2 D hD fun F hF=>?_;refine s3 F hF fun G hG=>?_;exact⟨(),(cvE rfl rfl),hG⟩
     ·refine⟨At0 (L+2),ld0 bB,?_⟩;refine cmo (fen 5 bB) ?_;rintro e C ⟨rfl,hbC⟩;refine⟨hbC,?_⟩;have bC:=zst bB hbC;refine s1 bC fun D hD=>?_;refine s2 D hD fun F hF=>?_;refine s3 F hF fun G hG=>?_;exact⟨(),(cvE rfl rfl),hG⟩
   ·refine⟨At0 (L+2),ld0 bA,?_⟩;refine Gp ?_ ?_
    ·refine cmo (fen 4 bA) ?_;rintro e B ⟨rfl,hbB⟩;refine⟨hbB,?_⟩;have bB:=zst bA hbB;refine Gp ?_ ?_
     ·refine cmo (fen 5 bB) ?_;rintro e C ⟨rfl,hbC⟩;refine⟨hbC,?_⟩;have bC:=zst bB hbC;refine Gp ?_ ?_
      ·refine s1 bC fun D hD=>?_;refine Gp ?_ ?_
       ·refine s2 D hD fun F hF=>?_;refine⟨At0 (L+2),ld1 F hF.2,?_⟩;refine s3 F hF fun G hG=>?_;exact⟨(),(cvE rfl rfl),hG⟩
       ·refine⟨At0 (L+2),ld1 D hD.2,?_⟩;refine s2 D hD fun F hF=>?_;refine s3 F hF fun G hG=>?_;exact⟨(),(cvE rfl rfl),hG⟩
      ·refine⟨At0 (L+2),ld0 bC,?_⟩;refine s1 bC fun D hD=>?_;refine s2 D hD fun F hF=>?_;refine s3 F hF fun G hG=>?_;exact⟨(),(cvE rfl rfl),hG⟩
     ·refine⟨At0 (L+2),ld0 bB,?_⟩;refine cmo (fen 5 bB) ?_;rintro e C ⟨rfl,hbC⟩;refine⟨hbC,?_⟩;have bC:=zst bB hbC;refine s1 bC fun D hD=>?_;refine s2 D hD fun F hF=>?_;refine s3 F hF fun G hG=>?_;exact⟨(),(cvE rfl rfl),hG⟩
    ·refine⟨At0 (L+2),ld0 bA,?_⟩;refine cmo (fen 4 bA) ?_;rintro e B ⟨rfl,hbB⟩;refine⟨hbB,?_⟩;have bB:=zst bA hbB;refine cmo (fen 5 bB) ?_;rintro e C ⟨rfl,hbC⟩;refine⟨hbC,?_⟩;have bC:=zst bB hbC;refine s1 bC fun D hD=>?_;refine s2 D hD fun F hF=>?_;refine s3 F hF fun G hG=>?_;exact⟨(),(cvE rfl rfl),hG⟩
   ·refine⟨At0 (L+2),ld0 bA,?_⟩;refine Gp ?_ ?_
    ·refine cmo (fen 4 bA) ?_;rintro e B ⟨rfl,hbB⟩;refine⟨hbB,?_⟩;have bB:=zst bA hbB;refine Gp ?_ ?_
     ·refine cmo (fen 5 bB) ?_;rintro e C ⟨rfl,hbC⟩;refine⟨hbC,?_⟩;have bC:=zst bB hbC;refine Gp ?_ ?_
      ·refine s1 bC fun D hD=>?_;refine⟨At0 (L+2),ld1 D hD.2,?_⟩;refine s2 D hD fun F hF=>?_;refine s3 F hF fun G hG=>?_;exact⟨(),(cvE rfl rfl),hG⟩
      ·refine⟨At0 (L+2),ld0 bC,?_⟩;refine s1 bC fun D hD=>?_;refine s2 D hD fun F hF=>?_;refine s3 F hF fun G hG=>?_;exact⟨(),(cvE rfl rfl),hG⟩
     ·refine⟨At0 (L+2),ld0 bB,?_⟩;refine cmo (fen 5 bB) ?_;rintro e C ⟨rfl,hbC⟩;refine⟨hbC,?_⟩;have bC:=zst bB hbC;refine s1 bC fun D hD=>?_;refine s2 D hD fun F hF=>?_;refine s3 F hF fun G hG=>?_;exact⟨(),(cvE rfl rfl),hG⟩
    ·refine⟨At0 (L+2),ld0 bA,?_⟩;refine cmo (fen 4 bA) ?_;rintro e B ⟨rfl,hbB⟩;refine⟨hbB,?_⟩;have bB:=zst bA hbB;refine cmo (fen 5 bB) ?_;rintro e C ⟨rfl,hbC⟩;refine⟨hbC,?_⟩;have bC:=zst bB hbC;refine s1 bC fun D hD=>?_;refine s2 D hD fun F hF=>?_;refine s3 F hF fun G hG=>?_;exact⟨(),(cvE rfl rfl),hG⟩
  ·refine⟨At0 (L+2),ld0 bY1,?_⟩;refine Gp ?_ ?_
   ·refine cmo (fen 3 bY1) ?_;rintro e A ⟨rfl,hbA⟩;refine⟨hbA,?_⟩;have bA:=zst bY1 hbA;refine Gp ?_ ?_
    ·refine cmo (fen 4 bA) ?_;rintro e B ⟨rfl,hbB⟩;refine⟨hbB,?_⟩;have bB:=zst bA hbB;refine Gp ?_ ?_
     ·refine cmo (fen 5 bB) ?_;rintro e C ⟨rfl,hbC⟩;refine⟨hbC,?_⟩;have bC:=zst bB hbC;refine Gp ?_ ?_
      ·refine s1 bC fun D hD=>?_;refine Gp ?_ ?_
       ·refine s2 D hD fun F hF=>?_;refine⟨At0 (L+2),ld1 F hF.2,?_⟩;refine s3 F hF fun G hG=>?_;exact⟨(),(cvE rfl rfl),hG⟩
       ·refine⟨At0 (L+2),ld1 D hD.2,?_⟩;refine s2 D hD fun F hF=>?_;refine s3 F hF fun G hG=>?_;exact⟨(),(cvE rfl rfl),hG⟩
      ·refine⟨At0 (L+2),ld0 bC,?_⟩;refine s1 bC fun D hD=>?_;refine s2 D hD fun F hF=>?_;refine s3 F hF fun G hG=>?_;exact⟨(),(cvE rfl rfl),hG⟩
     ·refine⟨At0 (L+2),ld0 bB,?_⟩;refine cmo (fen 5 bB) ?_;rintro e C ⟨rfl,hbC⟩;refine⟨hbC,?_⟩;have bC:=zst bB hbC;refine s1 bC fun D hD=>?_;refine s2 D hD fun F hF=>?_;refine s3 F hF fun G hG=>?_;exact⟨(),(cvE rfl rfl),hG⟩
    ·refine⟨At0 (L+2),ld0 bA,?_⟩;refine cmo (fen 4 bA) ?_;rintro e B ⟨rfl,hbB⟩;refine⟨hbB,?_⟩;have bB:=zst bA hbB;refine cmo (fen 5 bB) ?_;rintro e C ⟨rfl,hbC⟩;refine⟨hbC,?_⟩;have bC:=zst bB hbC;refine s1 bC fun D hD=>?_;refine s2 D hD fun F hF=>?_;refine s3 F hF fun G hG=>?_;exact⟨(),(cvE rfl rfl),hG⟩
   ·refine⟨At0 (L+2),ld0 bY1,?_⟩;refine cmo (fen 3 bY1) ?_;rintro e A ⟨rfl,hbA⟩;refine⟨hbA,?_⟩;have bA:=zst bY1 hbA;refine cmo (fen 4 bA) ?_;rintro e B ⟨rfl,hbB⟩;refine⟨hbB,?_⟩;have bB:=zst bA hbB;refine cmo (fen 5 bB) ?_;rintro e C ⟨rfl,hbC⟩;refine⟨hbC,?_⟩;have bC:=zst bB hbC;refine s1 bC fun D hD=>?_;refine s2 D hD fun F hF=>?_;refine s3 F hF fun G hG=>?_;exact⟨(),(cvE rfl rfl),hG⟩
  ·refine⟨At0 (L+2),ld0 bY1,?_⟩;refine Gp ?_ ?_
   ·refine cmo (fen 3 bY1) ?_;rintro e A ⟨rfl,hbA⟩;refine⟨hbA,?_⟩;have bA:=zst bY1 hbA;refine Gp ?_ ?_
    ·refine cmo (fen 4 bA) ?_;rintro e B ⟨rfl,hbB⟩;refine⟨hbB,?_⟩;have bB:=zst bA hbB;refine Gp ?_ ?_
     ·refine cmo (fen 5 bB) ?_;rintro e C ⟨rfl,hbC⟩;refine⟨hbC,?_⟩;have bC:=zst bB hbC;refine Gp ?_ ?_
      ·refine s1 bC fun D hD=>?_;refine⟨At0 (L+2),ld1 D hD.2,?_⟩;refine s2 D hD fun F hF=>?_;refine s3 F hF fun G hG=>?_;exact⟨(),(cvE rfl rfl),hG⟩
      ·refine⟨At0 (L+2),ld0 bC,?_⟩;refine s1 bC fun D hD=>?_;refine s2 D hD fun F hF=>?_;refine s3 F hF fun G hG=>?_;exact⟨(),(cvE rfl rfl),hG⟩
     ·refine⟨At0 (L+2),ld0 bB,?_⟩;refine cmo (fen 5 bB) ?_;rintro e C ⟨rfl,hbC⟩;refine⟨hbC,?_⟩;have bC:=zst bB hbC;refine s1 bC fun D hD=>?_;refine s2 D hD fun F hF=>?_;refine s3 F hF fun G hG=>?_;exact⟨(),(cvE rfl rfl),hG⟩
    ·refine⟨At0 (L+2),ld0 bA,?_⟩;refine cmo (fen 4 bA) ?_;rintro e B ⟨rfl,hbB⟩;refine⟨hbB,?_⟩;have bB:=zst bA hbB;refine cmo (fen 5 bB) ?_;rintro e C ⟨rfl,hbC⟩;refine⟨hbC,?_⟩;have bC:=zst bB hbC;refine s1 bC fun D hD=>?_;refine s2 D hD fun F hF=>?_;refine s3 F hF fun G hG=>?_;exact⟨(),(cvE rfl rfl),hG⟩
   ·refine⟨At0 (L+2),ld0 bY1,?_⟩;refine cmo (fen 3 bY1) ?_;rintro e A ⟨rfl,hbA⟩;refine⟨hbA,?_⟩;have bA:=zst bY1 hbA;refine cmo (fen 4 bA) ?_;rintro e B ⟨rfl,hbB⟩;refine⟨hbB,?_⟩;have bB:=zst bA hbB;refine cmo (fen 5 bB) ?_;rintro e C ⟨rfl,hbC⟩;refine⟨hbC,?_⟩;have bC:=zst bB hbC;refine s1 bC fun D hD=>?_;refine s2 D hD fun F hF=>?_;refine s3 F hF fun G hG=>?_;exact⟨(),(cvE rfl rfl),hG⟩
 clear fS fP sY hbwY fY fM f0 hwX fX sX hbX hbY;clear X Y;rintro _ Z ⟨hS,fP,fM,f0,fZ,sZ,hbZ⟩;refine⟨Nat,fun R=>⟨[(1,At0 b),(2,At0 L),(4,At0 (L+1)),(5,At0 (L+3)),(6,At0 R)],[]⟩,fun R Y=>Y.heap[R]?=some (.cells zc9.toArray 268 (0,0))/\Bw Z Y,?_,?_⟩
 ·refine cmo zrP ?_;rintro e Y ⟨rfl,hbY⟩;refine zn (X:=Y) (v := .agg zc9.toArray) zwz rfl rfl rfl fun V hbV fV sV=>?_;exact⟨Y.heap.size,(cvE rfl rfl),fV,(zst hbY hbV)⟩
 rintro R Y ⟨fR,hbY⟩;have hbwY:=zst hbZ hbY;replace hS:=hS.below hbY;replace fP:=zb hbY fP;replace fM:=zb hbY fM;replace f0:=zb hbY f0;replace fZ:=zb hbY fZ;refine⟨Unit,fun _=>⟨[(4,At0 (L+1))],[]⟩,fun _ V=>zN V (L+1) (qV m.toNat x)/\Bw w V,?_,?_⟩
 ·refine⟨_,zc (za fZ) (i:=0) rfl,?_⟩;refine cmo (zha (n:=x.ev.length) (caps := #[At0 (L+3),At0 R,At0 L]) (g:=170) (p:=fun a d=>zg x.po a d&&(zaf x a&&(zaf x d&&zcb m.toNat x (zB x 3) (zB x 4) (zB x 5) a d))) (by omega) (by kernel_rfl) fun a d U ha hd hb=>zsm hk (hS.below hb) (zb hb fP) (zb hb fR) (zb hb fM) ha hd) ?_;rintro e V ⟨rfl,hbV⟩;replace f0:=zb hbV f0;refine zr (v := .agg (zd (qV m.toNat x)).toArray) k30 f0 (ze _) (ze _) (zD _) ?_;exact⟨(),(cvE rfl rfl),zm f0,zj ((zst hbwY hbV)) (by omega) _⟩
 rintro _ V ⟨f0,hbV⟩;exact⟨zd (qV m.toNat x),ze _,za f0,rfl,hbV⟩
end
section
variable {b c:Nat} {x:ExD} {q:OA} {w:Wd}
theorem zng {m:UInt8}:Calls PG 70 #[u8 m] w fun e w'=>e = .returned (.bool (j3 m.toNat))/\w=w':=by
 refine zJ 9 [u8 m] Tryz.func70 ?_;refine biE (fun h=>?_) fun h=>?_
 ·have h:(1:Int)<=(m.toNat:Int):=dT h;refine⟨rb ?_,rfl⟩;unfold j3;rw [Uu (by omega:1<=m.toNat),UA];exact QH.2 (by show (m.toNat:Int)<=6↔_;omega)
 ·have h:¬ (1:Int)<=(m.toNat:Int):=dF h;refine⟨rb ?_,rfl⟩;unfold j3;rw [Uj (by omega:¬ 1<=m.toNat)];rfl
theorem zsB {r:RelD} (hn:r.n=x.ev.length) (h48:x.ev.length<=48):zG (zaG x r).to:=by
 unfold zaG;exact zb8 (by omega)
theorem zi5 {X:Wd} {g:Nat} {a b c:RelD} (h:X.heap[g]?=some (.cells (zd a++(zd b++zd c)).toArray 30 (0,0))):SlR zt2 X (some ⟨g,0,none⟩) [a,b,c] :=
 SlR.of_cells (hlt h) (by
  have:[a,b,c].flatMap zt2.enc=zd a++(zd b++zd c):=by
   rw [KS,KS,KS,Qp,QM];rfl
  rw [this];exact za h)
theorem zlm {m:UInt8} (hk:j3 m.toNat=true) (fx:ExH w b x q c) (hv:ExV w x q) (hrf:x.rf.n=x.ev.length) (hT:Tz64M w):CB 71 #[u8 m,At0 b] w (u8 (UInt8.ofNat (zai m.toNat x))):=by
 refine qa 80 [u8 m,At0 b] (.c .p (.c .p (.c .p (.c .p (.c .p (.c .p (.c .p (.c .p (.c .p (.c .p .p)))))))))) Tryz.func71 ?_;obtain⟨L,hL⟩:=nm (w.heap.size);have hn:=hv.n;obtain⟨fw,frw⟩:=zmh hv hT;have hba:∀ (A:Wd) (o:Obj),Bw A (A.alloc o):=fun A o=>(zba _ _);refine⟨Unit,fun _=>⟨[(0,u8 m),(3,At0 L)],[]⟩,fun _ X=>X.heap[L]?=some (.cells #[At0 b] 86 (0,0))/\Bw w X,⟨(),⟨.cons rfl (.cons (by rw [hL];rfl) .nil),rfl⟩,by rw [hL];exact zz w _,hba w _⟩,?_⟩;rintro _ X ⟨fB,hbX⟩;refine⟨Nat,fun F=>⟨[(0,u8 m),(3,At0 L),(5,At0 F)],[]⟩,fun F Y=>zN Y F (frM x)/\Y.heap[L]?=some (.cells #[At0 b] 86 (0,0))/\Bw w Y,?_,?_⟩
 ·refine⟨_,zc (za fB) (i:=0) rfl,cmo (zwC (zb hbX fx) (hv.below hbX) (hT.below hbX)) ?_⟩;rintro e Y ⟨rfl,hbY⟩;refine zn (X:=Y) (v := .agg (zd (frM x)).toArray) k30 (ze _) (by kernel_rfl) (zD _) fun V hbV fV sV=>?_;have b1:=zst hbY hbV;exact⟨Y.heap.size,(cvE rfl rfl),fV,zb b1 fB,(zst hbX b1)⟩
 clear fB hbX;clear X;rintro F X ⟨fF,fB,hbX⟩;refine⟨Nat,fun G=>⟨[(0,u8 m),(3,At0 L),(5,At0 F),(6,At0 G)],[]⟩,fun G Y=>zN Y G (zan x)/\zN Y F (frM x)/\Y.heap[L]?=some (.cells #[At0 b] 86 (0,0))/\Bw w Y,?_,?_⟩
 ·refine⟨_,zc (za fB) (i:=0) rfl,?_⟩;have fX:=zb hbX fx;have hvX:=hv.below hbX;refine⟨_,zc (za fX) (i:=0) rfl,cmo (zha (n:=x.ev.length) (caps := #[At0 L]) (g:=116) (p:=fun a d=>zg x.po a d&&zaJ x a d) (by omega) (by kernel_rfl) fun a d Z ha hd hb=>zoX (zb hb fB) (zb hb fX) (hvX.below hb) ha hd) ?_⟩;rintro e Y ⟨rfl,hbY⟩;refine zn (X:=Y) (v := .agg (zd (zan x)).toArray) k30 (ze _) (by kernel_rfl) (zD _) fun V hbV fV sV=>?_;have b1:=zst hbY hbV;exact⟨Y.heap.size,(cvE rfl rfl),fV,zb b1 fF,zb b1 fB,(zst hbX b1)⟩
 clear fF fB hbX;clear X;rintro G X ⟨fG,fF,fB,hbX⟩;have lw:zG (zan x).to:=zb8 (by omega);have hbr:zai m.toNat x=if jg (z8 (zan x) [x.rf,x.co,frM x])=true then (if zaS (qK x.rm (qf (frM x) x.co).1).1=true then (if m.toNat=1 then 0 else if jg (z8 (qV m.toNat x) [if m.toNat=2 then x.rf else zaG x x.rf,x.co,frM x])=true then 0 else 3) else 2) else 1:=rfl
 refine⟨Unit,fun _=>⟨[(0,u8 m),(3,At0 L),(5,At0 F)],[]⟩,fun _ Y=>jg (z8 (zan x) [x.rf,x.co,frM x])=true/\zN Y F (frM x)/\Y.heap[L]?=some (.cells #[At0 b] 86 (0,0))/\Bw w Y,?_,?_⟩
 ·have dX:Bw X X.drew:=(Gj _ _).drew;have fX:=hdr (zb hbX fx);refine DrawE.ord [] [0,1,2,3,4,5,6,7,8,9,10,11,12,13] (by kernel_rfl) ⟨zd (zan x),ze _,za (hdr fG),hlt (hdr fG),_,zc (za (hdr fB)) (i:=0) rfl,zd x.rf,ze _,qi fX (i:=1) (by decide) rfl,hlt fX,_,zc (za (hdr fB)) (i:=0) rfl,zd x.co,ze _,qi fX (i:=2) (by decide) rfl,hlt fX,zd (frM x),ze _,za (hdr fF),hlt (hdr fF),⟨by decide,by decide,rfl⟩,zd x.rf++(zd x.co++zd (frM x)),by kernel_rfl,?_⟩;refine⟨hba _ _,?_⟩;have b1:=dX.alloc (Ge _) (.cells (zd x.rf++(zd x.co++zd (frM x))).toArray 30);have hl:=zi5 (zz X.drew (.cells (zd x.rf++(zd x.co++zd (frM x))).toArray 30));have hw3:∀ o∈[x.rf,x.co,frM x],zG o.to:=by
   simp only [UG,Qv,Gu,forall_eq_or_imp,forall_eq];exact⟨hv.rf,hv.co,frw⟩
  refine cmo (zi0 (l:=[x.rf,x.co,frM x]) lw hl hw3 (JS rfl)) ?_;rintro e Y ⟨rfl,hbY⟩;refine⟨hbY,?_⟩;have b2:=zst b1 hbY;refine cmo (zc3 (zc6 lw hw3) (hT.below ((zst hbX b2)))) ?_;rintro e Z ⟨rfl,hbZ⟩;refine⟨hbZ,?_⟩;have b3:=zst b2 hbZ;have b4:=zst hbX b3;refine biE (fun h=>?_) fun h=>?_
  ·have h:jg (z8 (zan x) [x.rf,x.co,frM x])=false:=by
    have h:(!jg (z8 (zan x) [x.rf,x.co,frM x]))=true:=h;simpa using h
   rw [h,Gy (by decide)] at hbr;rw [hbr];exact⟨rfl,b4⟩
  ·have h:jg (z8 (zan x) [x.rf,x.co,frM x])=true:=by
    have h:(!jg (z8 (zan x) [x.rf,x.co,frM x]))=false:=h;simpa using h
   exact⟨(),(cvE rfl rfl),h,zb b3 fF,zb b3 fB,b4⟩
 clear fG fF fB hbX;clear X;rintro _ X ⟨h1,fF,fB,hbX⟩;rw [Gz h1] at hbr;clear h1 lw G;refine⟨Nat,fun G=>⟨[(0,u8 m),(3,At0 L),(5,At0 F),(7,At0 G)],[]⟩,fun G Y=>zN Y G (qf (frM x) x.co).1/\zN Y F (frM x)/\Y.heap[L]?=some (.cells #[At0 b] 86 (0,0))/\Bw w Y,?_,?_⟩
 ·have dX:Bw X X.drew:=(Gj _ _).drew;have fX:=hdr (zb hbX fx);have put:∀ (W:Wd) (b3:Nat),Bw X W->zN W b3 zp->X.heap.size<=b3->∀ {K:Wd->Prop},(∀ Y,(zN Y b3 (qf (frM x) x.co).1/\zN Y F (frM x)/\Y.heap[L]?=some (.cells #[At0 b] 86 (0,0))/\Bw w Y)->K Y) ->
    SatR ((storeVar 30 ⟨b3,0,none⟩ (.agg (zd (qf (frM x) x.co).1).toArray)).run PG W) fun _ w'=>K w':=by
   intro W b3 hW f3 g3 K k;refine zr (v := .agg (zd (qf (frM x) x.co).1).toArray) k30 f3 (ze _) (ze _) (zD _) ?_;have hF2:=hlt fF;have hL2:=hlt fB;exact k _ ⟨zm f3,(zo (by omega)).trans (zb hW fF),(zo (by omega)).trans (zb hW fB),zj ((zst hbX hW)) (by have:=hbX.size;omega) _⟩
  refine DrawE.treeQ [10] (.op 0 (.op 1 (.op 2 (.op 3 (.op 4 (.alt (.op 9 (.op 5 (.op 6 (.op 7 (.op 8 (.op 10 (.op 11 .nil))))))) (.op 5 (.op 6 (.op 7 (.op 8 (.op 9 (.op 10 (.op 11 .nil))))))))))))) (by kernel_rfl) ⟨zd (frM x),ze _,za (hdr fF),hlt (hdr fF),_,zc (za (hdr fB)) (i:=0) rfl,zd x.co,ze _,qi fX (i:=2) (by decide) rfl,hlt fX,Gp ?_ ?_⟩
  ·refine⟨hba _ _,?_⟩;have b1:=dX.alloc (Ge _) (.cells (zd zp).toArray 30);refine cmo (zcg frw hv.co (hT.below ((zst hbX b1)))) ?_;rintro e Y ⟨rfl,hbY⟩;exact⟨hbY,put Y X.heap.size ((zst b1 hbY)) (zb hbY (zz X.drew _)) (Ge _) (fun Y hY=>⟨X.heap.size,(cvE rfl rfl),hY⟩)⟩
  ·refine cmo (zcg frw hv.co (hT.below ((zst hbX dX)))) ?_;rintro e Y ⟨rfl,hbY⟩;refine⟨hbY,?_⟩;have b1:=zst dX hbY;exact⟨hba _ _,put _ Y.heap.size (b1.alloc b1.size _) (zz Y _) b1.size (fun V hV=>⟨Y.heap.size,(cvE rfl rfl),hV⟩)⟩
 clear fF fB hbX;clear X;rintro G X ⟨fG,fF,fB,hbX⟩;have tw:=zcO (a:=frM x) (b:=x.co) frw hv.co;refine⟨Nat,fun H=>⟨[(0,u8 m),(3,At0 L),(5,At0 F),(9,At0 H)],[]⟩,fun H Y=>zN Y H (qK x.rm (qf (frM x) x.co).1).1/\zN Y F (frM x)/\Y.heap[L]?=some (.cells #[At0 b] 86 (0,0))/\Bw w Y,?_,?_⟩
 ·have dX:Bw X X.drew:=(Gj _ _).drew;have fX:=hdr (zb hbX fx);obtain⟨tb,htb⟩:=nm ((qf (frM x) x.co).1);rw [<- htb] at fG tw ⊢;have put:∀ (W:Wd) (b3:Nat),Bw X W->zN W b3 zp->X.heap.size<=b3->∀ {K:Wd->Prop},(∀ Y,(zN Y b3 (qK x.rm tb).1/\zN Y F (frM x)/\Y.heap[L]?=some (.cells #[At0 b] 86 (0,0))/\Bw w Y)->K Y) ->
    SatR ((storeVar 30 ⟨b3,0,none⟩ (.agg (zd (qK x.rm tb).1).toArray)).run PG W) fun _ w'=>K w':=by
   intro W b3 hW f3 g3 K k;refine zr (v := .agg (zd (qK x.rm tb).1).toArray) k30 f3 (ze _) (ze _) (zD _) ?_;have hF2:=hlt fF;have hL2:=hlt fB;exact k _ ⟨zm f3,(zo (by omega)).trans (zb hW fF),(zo (by omega)).trans (zb hW fB),zj ((zst hbX hW)) (by have:=hbX.size;omega) _⟩
  refine DrawE.treeQ [10] (.op 0 (.op 1 (.op 2 (.op 3 (.op 4 (.alt (.op 9 (.op 5 (.op 6 (.op 7 (.op 8 (.op 10 (.op 11 .nil))))))) (.op 5 (.op 6 (.op 7 (.op 8 (.op 9 (.op 10 (.op 11 .nil))))))))))))) (by kernel_rfl) ⟨_,zc (za (hdr fB)) (i:=0) rfl,zd x.rm,ze _,qi fX (i:=5) (by decide) rfl,hlt fX,zd tb,ze _,za (hdr fG),hlt (hdr fG),Gp ?_ ?_⟩
  ·refine⟨hba _ _,?_⟩;have b1:=dX.alloc (Ge _) (.cells (zd zp).toArray 30);refine cmo (zmJ hv.rm tw) ?_;rintro e Y ⟨rfl,hbY⟩;exact⟨hbY,put Y X.heap.size ((zst b1 hbY)) (zb hbY (zz X.drew _)) (Ge _) (fun Y hY=>⟨X.heap.size,(cvE rfl rfl),hY⟩)⟩
  ·refine cmo (zmJ hv.rm tw) ?_;rintro e Y ⟨rfl,hbY⟩;refine⟨hbY,?_⟩;have b1:=zst dX hbY;exact⟨hba _ _,put _ Y.heap.size (b1.alloc b1.size _) (zz Y _) b1.size (fun V hV=>⟨Y.heap.size,(cvE rfl rfl),hV⟩)⟩
 clear fG fF fB hbX;clear X G;rintro H X ⟨fH,fF,fB,hbX⟩;refine⟨Unit,fun _=>⟨[(0,u8 m),(3,At0 L),(5,At0 F)],[]⟩,fun _ Y=>zaS (qK x.rm (qf (frM x) x.co).1).1=true/\zN Y F (frM x)/\Y.heap[L]?=some (.cells #[At0 b] 86 (0,0))/\Bw w Y,?_,?_⟩
 ·refine⟨zd (qK x.rm (qf (frM x) x.co).1).1,ze _,za fH,hlt fH,cmo (znN (zln hv.rm)) ?_⟩;rintro e Y ⟨rfl,hbY⟩;have b4:=zst hbX hbY;refine biE (fun h=>?_) fun h=>?_
  ·have h:zaS (qK x.rm (qf (frM x) x.co).1).1=false:=by
    have h:(!zaS (qK x.rm (qf (frM x) x.co).1).1)=true:=h;simpa using h
   rw [h,Gy (by decide)] at hbr;rw [hbr];exact⟨rfl,b4⟩
  ·have h:zaS (qK x.rm (qf (frM x) x.co).1).1=true:=by
    have h:(!zaS (qK x.rm (qf (frM x) x.co).1).1)=false:=h;simpa using h
   exact⟨(),(cvE rfl rfl),h,zb hbY fF,zb hbY fB,b4⟩
 clear fH fF fB hbX tw;clear X H;rintro _ X ⟨h1,fF,fB,hbX⟩;rw [Gz h1] at hbr;clear h1;refine⟨Unit,fun _=>⟨[(0,u8 m),(3,At0 L),(5,At0 F)],[]⟩,fun _ Y=>m.toNat≠1/\X=Y,?_,?_⟩
 ·refine biE (fun h=>?_) fun h=>?_
  ·have h:(m.toNat:Int)=1:=dT h;rw [Gz (by omega)] at hbr;rw [hbr];exact⟨rfl,hbX⟩
  ·have h:¬ (m.toNat:Int)=1:=dF h;exact⟨(),(cvE rfl rfl),by omega,rfl⟩
 rintro _ _ ⟨h1,rfl⟩;rw [Gy h1] at hbr;clear h1;refine⟨Nat,fun G=>⟨[(0,u8 m),(3,At0 L),(5,At0 F),(11,At0 G)],[]⟩,fun G Y=>G≠F/\G≠L/\w.heap.size<=G/\zN Y G x.rf/\zN Y F (frM x)/\Y.heap[L]?=some (.cells #[At0 b] 86 (0,0))/\Bw w Y,?_,?_⟩
 ·have fX:=zb hbX fx;refine⟨_,zc (za fB) (i:=0) rfl,zd x.rf,ze _,qi fX (i:=1) (by decide) rfl,hlt fX,zn (X:=X) (v := .agg (zd x.rf).toArray) k30 (ze _) (by kernel_rfl) (zD _) fun V hbV fV sV=>?_⟩;have hF2:=hlt fF;have hL2:=hlt fB;exact⟨X.heap.size,(cvE rfl rfl),by omega,by omega,hbX.size,fV,zb hbV fF,zb hbV fB,(zst hbX hbV)⟩
 clear fF fB hbX;clear X;rintro G X ⟨hGF,hGL,hGw,fG,fF,fB,hbX⟩;obtain⟨rfx,hrfx⟩:=nm (if m.toNat=2 then x.rf else zaG x x.rf);have rfw:zG rfx.to:=by
  rw [hrfx]
  split
  ·exact hv.rf
  ·exact zsB hrf (by omega)
 rw [<- hrfx] at hbr;refine⟨Unit,fun _=>⟨[(0,u8 m),(3,At0 L),(5,At0 F),(11,At0 G)],[]⟩,fun _ Y=>zN Y G rfx/\zN Y F (frM x)/\Y.heap[L]?=some (.cells #[At0 b] 86 (0,0))/\Bw w Y,?_,?_⟩
 ·have fX:=zb hbX fx;have hvX:=hv.below hbX;refine biE (fun h=>?_) fun h=>?_
  ·have h:¬ m.toNat=2:=by
    have h:(!decide ((m.toNat:Int)=2))=true:=h;have h:¬ (m.toNat:Int)=2:=(by simpa using h);omega
   rw [Gy h] at hrfx;refine⟨_,zc (za fB) (i:=0) rfl,zd x.rf,ze _,za fG,hlt fG,cmo (ztz fX hvX hv.rf hrf) ?_⟩;rintro e Y ⟨rfl,hbY⟩;rw [<- hrfx];exact zr (v := .agg (zd rfx).toArray) k30 (zb hbY fG) (ze _) (ze _) (zD _) ⟨(),(cvE rfl rfl),zm (zb hbY fG),(zo (by omega)).trans (zb hbY fF),(zo (by omega)).trans (zb hbY fB),zj ((zst hbX hbY)) hGw _⟩
  ·have h:m.toNat=2:=by
    have h:(!decide ((m.toNat:Int)=2))=false:=h;have h:(m.toNat:Int)=2:=(by simpa using h);omega
   rw [Gz h] at hrfx;rw [hrfx];exact⟨(),(cvE rfl rfl),fG,fF,fB,hbX⟩
 clear fG fF fB hbX hrfx;clear X;rintro _ X ⟨fG,fF,fB,hbX⟩;have kw:zG (qV m.toNat x).to:=zb8 (by omega);have dX:Bw X X.drew:=(Gj _ _).drew;have hbD:=zst hbX dX;have hw3:∀ o∈[rfx,x.co,frM x],zG o.to:=by
  simp only [UG,Qv,Gu,forall_eq_or_imp,forall_eq];exact⟨rfw,hv.co,frw⟩
 have fD:=hdr (zb hbX fx);have hk0:∀ {Y:Wd},Bw X Y->CB 121 #[u8 m,At0 b] Y (.agg (zd (qV m.toNat x)).toArray):=fun {Y} hY =>
  have h2:=zst hbX hY
  zul hk (zb h2 fx) (hv.below h2) (hT.below h2)
 refine DrawE.treeQ [] (.op 0 (.op 1 (.op 3 (.op 4 (.op 5 (.op 6 (.op 7 (.op 8 (.alt (.op 9 (.op 2 (.op 10 (.op 11 (.op 12 .nil))))) (.op 2 (.op 9 (.op 10 (.op 11 (.op 12 .nil)))))))))))))) (by kernel_rfl) ⟨_,zc (za (hdr fB)) (i:=0) rfl,zd rfx,ze _,za (hdr fG),hlt (hdr fG),_,zc (za (hdr fB)) (i:=0) rfl,zd x.co,ze _,qi fD (i:=2) (by decide) rfl,hlt fD,zd (frM x),ze _,za (hdr fF),hlt (hdr fF),Gp ?_ ?_⟩
 ·refine⟨⟨by decide,by decide,rfl⟩,zd rfx++(zd x.co++zd (frM x)),by kernel_rfl,?_⟩;refine⟨hba _ _,?_⟩;have b1:=dX.alloc (Ge _) (.cells (zd rfx++(zd x.co++zd (frM x))).toArray 30);have hl:=zi5 (zz X.drew (.cells (zd rfx++(zd x.co++zd (frM x))).toArray 30));refine cmo (hk0 b1) ?_;rintro e Y ⟨rfl,hbY⟩;refine⟨hbY,?_⟩;have b2:=zst b1 hbY;refine cmo (zi0 (l:=[rfx,x.co,frM x]) kw (hl.below hbY) hw3 (JS rfl)) ?_;rintro e V ⟨rfl,hbV⟩;refine⟨hbV,?_⟩;have b3:=zst b2 hbV;refine cmo (zc3 (zc6 kw hw3) (hT.below ((zst hbX b3)))) ?_;rintro e Z ⟨rfl,hbZ⟩;refine⟨hbZ,?_⟩;have b5:=hbX.trans (((zst b3 hbZ)).mono hbX.size);refine biE (fun h=>?_) fun h=>?_
  ·have h:jg (z8 (qV m.toNat x) [rfx,x.co,frM x])=false:=by
    have h:(!jg (z8 (qV m.toNat x) [rfx,x.co,frM x]))=true:=h;simpa using h
   rw [h,Gy (by decide)] at hbr;rw [hbr];exact⟨rfl,b5⟩
  ·have h:jg (z8 (qV m.toNat x) [rfx,x.co,frM x])=true:=by
    have h:(!jg (z8 (qV m.toNat x) [rfx,x.co,frM x]))=false:=h;simpa using h
   rw [h,Gz rfl] at hbr;rw [hbr];exact⟨rfl,b5⟩
 ·refine cmo (hk0 dX) ?_;rintro e Y ⟨rfl,hbY⟩;refine⟨hbY,?_⟩;have b1:=zst dX hbY;refine⟨⟨by decide,by decide,rfl⟩,zd rfx++(zd x.co++zd (frM x)),by kernel_rfl,?_⟩;refine⟨hba _ _,?_⟩;have b2:=b1.alloc b1.size (.cells (zd rfx++(zd x.co++zd (frM x))).toArray 30);have hl:=zi5 (zz Y (.cells (zd rfx++(zd x.co++zd (frM x))).toArray 30));refine cmo (zi0 (l:=[rfx,x.co,frM x]) kw hl hw3 (JS rfl)) ?_;rintro e V ⟨rfl,hbV⟩;refine⟨hbV,?_⟩;have b3:=zst b2 hbV;refine cmo (zc3 (zc6 kw hw3) (hT.below ((zst hbX b3)))) ?_;rintro e Z ⟨rfl,hbZ⟩;refine⟨hbZ,?_⟩;have b5:=hbX.trans (((zst b3 hbZ)).mono hbX.size);refine biE (fun h=>?_) fun h=>?_
  ·have h:jg (z8 (qV m.toNat x) [rfx,x.co,frM x])=false:=by
    have h:(!jg (z8 (qV m.toNat x) [rfx,x.co,frM x]))=true:=h;simpa using h
   rw [h,Gy (by decide)] at hbr;rw [hbr];exact⟨rfl,b5⟩
  ·have h:jg (z8 (qV m.toNat x) [rfx,x.co,frM x])=true:=by
    have h:(!jg (z8 (qV m.toNat x) [rfx,x.co,frM x]))=false:=h;simpa using h
   rw [h,Gz rfl] at hbr;rw [hbr];exact⟨rfl,b5⟩
theorem zkf (h:zS x=true):x.rf.n=x.ev.length:=by
 unfold zS zbh at h;simp only [UD,List.all_nil,Bool.and_true,bAT,dE] at h;obtain⟨_,_,_,_,⟨_,h6,_⟩,_⟩:=h;exact h6.1
theorem zr8 {A B C:Bool} {m:Nat}:(if A=true then (if B=true then (if m=1 then 0 else if C=true then 0 else 3) else 2) else 1)<=3:=by
 by_cases h:m=1 <;> cases A <;> cases B <;> cases C <;> simp [h]
theorem zoY {m:Nat} {x:ExD}:decide ((((UInt8.ofNat (zai m x)).toNat:Nat):Int)=0)=decide (zai m x=0):=by
 have h:zai m x<=3:=by
  unfold zai;exact zr8
 refine QH.2 ?_;rw [KH];omega
theorem ztl {m:UInt8} (hv:ExV w x q) (hT:Tz64M w):CB 31 #[u8 m,.agg (exC x q c).toArray] w (.bool (zf8 m.toNat x)):=by
 refine qa 16 [u8 m,.agg (exC x q c).toArray] (.c .p .p) Tryz.func31 ?_;obtain⟨L,hL⟩:=nm (w.heap.size);refine⟨Unit,fun _=>⟨[(0,u8 m),(3,At0 L)],[]⟩,fun _ X=>ExH X L x q c/\Bw w X,⟨(),⟨.cons rfl (.cons (by rw [hL];rfl) .nil),rfl⟩,by rw [hL];exact zz w _,(zba w _)⟩,?_⟩;rintro _ X ⟨fX,hbX⟩;refine cmo zng ?_;rintro e _ ⟨rfl,rfl⟩;refine biE (fun h1=>?_) fun h1=>?_
 ·have h1:j3 m.toNat=true:=h1;refine⟨exC x q c,zI _ _ _,za fX,hlt fX,cmo (zch (hv.below hbX) (hT.below hbX)) ?_⟩;rintro e Y ⟨rfl,hbY⟩;have bY:=zst hbX hbY;refine biE (fun h2=>?_) fun h2=>?_
  ·have h2:zS x=true:=h2;refine cmo (zlm h1 (zb hbY fX) (hv.below bY) (zkf h2) (hT.below bY)) ?_;rintro e Z ⟨rfl,hbZ⟩;refine⟨rb ?_,(zst bY hbZ)⟩;unfold zf8;rw [h1,h2];exact zoY
  ·have h2:zS x=false:=h2;exact⟨rb (by unfold zf8;rw [h2];cases j3 m.toNat <;> rfl),bY⟩
 ·have h1:j3 m.toNat=false:=h1;exact brF ⟨rb (by unfold zf8;rw [h1];rfl),hbX⟩
end
section
variable {b c:Nat} {x:ExD} {q:OA} {w:Wd}
def zby (x:ExD) (r:RelD):Bool:=okR r&&(decide (r.n=x.ev.length)&&zS x)
theorem zkz {p:Bool} (h:(!p)=true):p=false:=by simpa using h
theorem zky {p:Bool} (h:(!p)=false):p=true:=by simpa using h
theorem zbp {X:Wd} {L:Nat} {r r0:RelD} (f0:zN X L r0) (hL:w.heap.size<=L) (hbX:Bw w X) {K:Wd->Prop} (k:∀ Y,zN Y L r->Bw w Y->K Y) :
  SatR ((storeVar 30 ⟨L,0,none⟩ (.agg (zd r).toArray)).run PG X) fun _ w'=>K w' :=
 zr (v := .agg (zd r).toArray) k30 f0 (ze _) (ze _) (zD _) (k _ (zm f0) (zj hbX hL _))
def frX (x:ExD):RelD:=if zS x=true then frM x else zp
def zkH (x:ExD):RelD:=if zS x=true then zf3 x else zp
def zk2 (x:ExD) (r:RelD):RelD:=if zby x r=true then zaG x r else zp
def zkO (x:ExD) (r:RelD):RelD:=if zby x r=true then zmd x r else zp
theorem zeS {r:RelD} (h:zby x r=true):okR r=true/\r.n=x.ev.length/\zS x=true:=by
 unfold zby at h;rw [bAT,bAT,dE] at h;exact h
theorem zcM (w:Wd) (x:ExD) (q:OA) (c:Nat) (r:RelD) (T:TypeId) : 
  ExH ((w.alloc (.cells (exC x q c).toArray 37)).alloc (.cells (zd r).toArray T)) w.heap.size x q c/\((w.alloc (.cells (exC x q c).toArray 37)).alloc (.cells (zd r).toArray T)).heap[w.heap.size+1]?=some (.cells (zd r).toArray T (0,0)) /\
   ((w.alloc (.cells (exC x q c).toArray 37)).alloc (.cells (zd r).toArray T)).heap.size=w.heap.size+2/\Bw w ((w.alloc (.cells (exC x q c).toArray 37)).alloc (.cells (zd r).toArray T)):=by
 have s1:=wz w (.cells (exC x q c).toArray 37);have h2:=zz (w.alloc (.cells (exC x q c).toArray 37)) (.cells (zd r).toArray T);have s2:=wz (w.alloc (.cells (exC x q c).toArray 37)) (.cells (zd r).toArray T);rw [s1] at h2 s2;have b1:Bw w (w.alloc (.cells (exC x q c).toArray 37)):=zba w _;exact⟨qm _ (zz w _),h2,s2,b1.alloc b1.size _⟩
theorem zqz {r:RelD} (hv:ExV w x q) (hr:zG r.to) (hT:Tz64M w):CB 147 #[.agg (exC x q c).toArray,.agg (zd r).toArray] w (.bool (zby x r)):=by
 refine qa 19 [.agg (exC x q c).toArray,.agg (zd r).toArray] (.c .p .p) Tryz.func147 ?_;obtain⟨L,hL⟩:=nm (w.heap.size);refine⟨Unit,fun _=>⟨[(2,At0 L),(3,At0 (L+1))],[]⟩,fun _ X=>ExH X L x q c/\zN X (L+1) r/\Bw w X,?_,?_⟩
 ·obtain⟨h1,h2,h3,h4⟩:=zcM w x q c r 30;have s1:=wz w (.cells (exC x q c).toArray 37);exact⟨(),⟨.cons (by rw [hL];rfl) (.cons (by rw [hL,<- s1];rfl) .nil),rfl⟩,by rw [hL];exact h1,by rw [hL];exact h2,h4⟩
 rintro _ X ⟨fX,fR,hbX⟩;refine⟨zd r,ze _,za fR,hlt fR,cmo (jA hr) ?_⟩;rintro e Y ⟨rfl,hbY⟩;have bY:=zst hbX hbY;refine biE (fun h1=>?_) fun h1=>?_
 ·have h1:okR r=true:=h1;refine⟨i64 r.n,by have:=zc (za (zb hbY fR)) (i:=0) (v:=i64 r.n) rfl;exact this,_,jq (za (zb hbY fX)),biE (fun h2=>?_) fun h2=>?_⟩
  ·have h2:r.n=(x.ev.length:Int):=dT h2;refine⟨exC x q c,zI _ _ _,za (zb hbY fX),hlt (zb hbY fX),cmo (zch (hv.below bY) (hT.below bY)) ?_⟩;rintro e Z ⟨rfl,hbZ⟩;exact⟨rb (by unfold zby;rw [h1,Uu h2];rfl),(zst bY hbZ)⟩
  ·have h2:¬ r.n=(x.ev.length:Int):=dF h2;exact⟨rb (by unfold zby;rw [h1,Uj h2];rfl),bY⟩
 ·have h1:okR r=false:=h1;exact brF ⟨rb (by unfold zby;rw [h1];rfl),bY⟩
theorem zw0 (hv:ExV w x q) (hT:Tz64M w):CB 98 #[.agg (exC x q c).toArray] w (.agg (zd (frX x)).toArray):=by
 refine qa 8 [.agg (exC x q c).toArray] (.c .p .p) Tryz.func98 ?_;obtain⟨L,hL⟩:=nm (w.heap.size);have hn:=hv.n;refine⟨Unit,fun _=>⟨[(1,At0 L),(2,At0 (L+1))],[]⟩,fun _ X=>ExH X L x q c/\zN X (L+1) zp/\Bw w X,?_,?_⟩
 ·obtain⟨h1,h2,h3,h4⟩:=zcM w x q c zp 30;have s1:=wz w (.cells (exC x q c).toArray 37);exact⟨(),⟨.cons (by rw [hL];rfl) (.cons (by rw [hL,<- s1];rfl) .nil),rfl⟩,by rw [hL];exact h1,by rw [hL];exact h2,h4⟩
 rintro _ X ⟨fX,f0,hbX⟩;have zero:frX x=zp->∀ {Y:Wd},Bw X Y->SatR ((storeVar 30 ⟨L+1,0,none⟩ (.agg (zd zp).toArray)).run PG Y) fun _ w'=>∃ cells,cells.length=49/\zw w' ⟨L+1,0,none⟩ cells/\Ending.returned (.agg cells.toArray) = .returned (.agg (zd (frX x)).toArray)/\Bw w w':=fun h0 {Y} hb=>by
  rw [h0];exact zbp (zb hb f0) (by omega) ((zst hbX hb)) fun Z fZ bZ=>⟨zd zp,ze _,za fZ,rfl,bZ⟩
 refine⟨exC x q c,zI _ _ _,za fX,hlt fX,cmo (zch (hv.below hbX) (hT.below hbX)) ?_⟩;rintro e Y ⟨rfl,hbY⟩;have bY:=zst hbX hbY;have fY:=zb hbY fX;refine biE (fun h2=>?_) fun h2=>?_
 ·have h2:zS x=false:=zkz h2;refine⟨zd zp,by kernel_rfl,?_⟩;exact zero (Gy fun h=>by rw [h2] at h;cases h) hbY
 ·have h2:zS x=true:=zky h2;have e0:frX x=frM x:=Gz h2;rw [e0];refine cmo (zwC fY (hv.below bY) (hT.below bY)) ?_;rintro e Z ⟨rfl,hbZ⟩;exact zbp (zb hbZ (zb hbY f0)) (by omega) ((zst bY hbZ)) fun V fV bV=>⟨zd (frM x),ze _,za fV,rfl,bV⟩
theorem zvp (hv:ExV w x q) (hT:Tz64M w):CB 99 #[.agg (exC x q c).toArray] w (.agg (zd (zkH x)).toArray):=by
 refine qa 12 [.agg (exC x q c).toArray] (.c .p .p) Tryz.func99 ?_;obtain⟨L,hL⟩:=nm (w.heap.size);have hn:=hv.n;refine⟨Unit,fun _=>⟨[(1,At0 L),(2,At0 (L+1))],[]⟩,fun _ X=>ExH X L x q c/\zN X (L+1) zp/\Bw w X,?_,?_⟩
 ·obtain⟨h1,h2,h3,h4⟩:=zcM w x q c zp 30;have s1:=wz w (.cells (exC x q c).toArray 37);exact⟨(),⟨.cons (by rw [hL];rfl) (.cons (by rw [hL,<- s1];rfl) .nil),rfl⟩,by rw [hL];exact h1,by rw [hL];exact h2,h4⟩
 rintro _ X ⟨fX,f0,hbX⟩;have zero:zkH x=zp->∀ {Y:Wd},Bw X Y->SatR ((storeVar 30 ⟨L+1,0,none⟩ (.agg (zd zp).toArray)).run PG Y) fun _ w'=>∃ cells,cells.length=49/\zw w' ⟨L+1,0,none⟩ cells/\Ending.returned (.agg cells.toArray) = .returned (.agg (zd (zkH x)).toArray)/\Bw w w':=fun h0 {Y} hb=>by
  rw [h0];exact zbp (zb hb f0) (by omega) ((zst hbX hb)) fun Z fZ bZ=>⟨zd zp,ze _,za fZ,rfl,bZ⟩
 refine⟨exC x q c,zI _ _ _,za fX,hlt fX,cmo (zch (hv.below hbX) (hT.below hbX)) ?_⟩;rintro e Y ⟨rfl,hbY⟩;have bY:=zst hbX hbY;have fY:=zb hbY fX;refine biE (fun h2=>?_) fun h2=>?_
 ·have h2:zS x=false:=zkz h2;refine⟨zd zp,by kernel_rfl,?_⟩;exact zero (Gy fun h=>by rw [h2] at h;cases h) hbY
 ·have h2:zS x=true:=zky h2;have e0:zkH x=zf3 x:=Gz h2;rw [e0];refine⟨_,jq (za fY),cmo (zha (n:=x.ev.length) (caps := #[At0 L]) (g:=146) (p:=zaJ x) (by omega) (by kernel_rfl) fun a d Z ha hd hb=>zuj (zb hb fY) ((hv.below bY).below hb) ha hd) ?_⟩;rintro e Z ⟨rfl,hbZ⟩;exact zbp (zb hbZ (zb hbY f0)) (by omega) ((zst bY hbZ)) fun V fV bV=>⟨zd (zf3 x),ze _,za fV,rfl,bV⟩
theorem zvv {r:RelD} (hv:ExV w x q) (hr:zG r.to) (hT:Tz64M w):CB 100 #[.agg (exC x q c).toArray,.agg (zd r).toArray] w (.agg (zd (zk2 x r)).toArray):=by
 refine qa 12 [.agg (exC x q c).toArray,.agg (zd r).toArray] (.c .p .p) Tryz.func100 ?_;obtain⟨L,hL⟩:=nm (w.heap.size);have hn:=hv.n;refine⟨Unit,fun _=>⟨[(2,At0 L),(3,At0 (L+1)),(4,At0 (L+2))],[]⟩,fun _ X=>ExH X L x q c/\zN X (L+1) r/\zN X (L+2) zp/\Bw w X,?_,?_⟩
 ·obtain⟨h1,h2,h3,h4⟩:=zcM w x q c r 30;have s1:=wz w (.cells (exC x q c).toArray 37);obtain⟨U,hU⟩:=nm ((w.alloc (.cells (exC x q c).toArray 37)).alloc (.cells (zd r).toArray 30));rw [<- hU] at h1 h2 h3 h4;have f3:=zz U (.cells (zd zp).toArray 30);rw [h3] at f3;subst hU;exact⟨(),⟨.cons (by rw [hL];rfl) (.cons (by rw [hL,<- s1];rfl) (.cons (by rw [hL,<- h3];rfl) .nil)),rfl⟩,by rw [hL];exact qm _ h1,by rw [hL];exact qm _ h2,by rw [hL];exact f3,h4.alloc h4.size _⟩
 rintro _ X ⟨fX,fR,f0,hbX⟩;have zero:zk2 x r=zp->∀ {Y:Wd},Bw X Y->SatR ((storeVar 30 ⟨L+2,0,none⟩ (.agg (zd zp).toArray)).run PG Y) fun _ w'=>∃ cells,cells.length=49/\zw w' ⟨L+2,0,none⟩ cells/\Ending.returned (.agg cells.toArray) = .returned (.agg (zd (zk2 x r)).toArray)/\Bw w w':=fun h0 {Y} hb=>by
  rw [h0];exact zbp (zb hb f0) (by omega) ((zst hbX hb)) fun Z fZ bZ=>⟨zd zp,ze _,za fZ,rfl,bZ⟩
 refine⟨exC x q c,zI _ _ _,za fX,hlt fX,zd r,ze _,za fR,hlt fR,cmo (zqz (hv.below hbX) hr (hT.below hbX)) ?_⟩;rintro e Y ⟨rfl,hbY⟩;have bY:=zst hbX hbY;have fY:=zb hbY fX;refine biE (fun h2=>?_) fun h2=>?_
 ·have h2:zby x r=false:=zkz h2;refine⟨zd zp,by kernel_rfl,?_⟩;exact zero (Gy fun h=>by rw [h2] at h;cases h) hbY
 ·have h2:zby x r=true:=zky h2;have h3:=zeS h2;have e0:zk2 x r=zaG x r:=Gz h2;rw [e0];refine⟨zd r,ze _,za (zb hbY fR),hlt (zb hbY fR),cmo (ztz fY (hv.below bY) hr h3.2.1) ?_⟩;rintro e Z ⟨rfl,hbZ⟩;exact zbp (zb hbZ (zb hbY f0)) (by omega) ((zst bY hbZ)) fun V fV bV=>⟨zd (zaG x r),ze _,za fV,rfl,bV⟩
theorem zvt {r:RelD} (hv:ExV w x q) (hr:zG r.to) (hT:Tz64M w):CB 101 #[.agg (exC x q c).toArray,.agg (zd r).toArray] w (.agg (zd (zkO x r)).toArray):=by
 refine qa 14 [.agg (exC x q c).toArray,.agg (zd r).toArray] (.c .p .p) Tryz.func101 ?_;obtain⟨L,hL⟩:=nm (w.heap.size);have hn:=hv.n;refine⟨Unit,fun _=>⟨[(2,At0 L),(3,At0 (L+1)),(4,At0 (L+2))],[]⟩,fun _ X=>ExH X L x q c/\zN X (L+1) r/\zN X (L+2) zp/\Bw w X,?_,?_⟩
 ·obtain⟨h1,h2,h3,h4⟩:=zcM w x q c r 30;have s1:=wz w (.cells (exC x q c).toArray 37);obtain⟨U,hU⟩:=nm ((w.alloc (.cells (exC x q c).toArray 37)).alloc (.cells (zd r).toArray 30));rw [<- hU] at h1 h2 h3 h4;have f3:=zz U (.cells (zd zp).toArray 30);rw [h3] at f3;subst hU;exact⟨(),⟨.cons (by rw [hL];rfl) (.cons (by rw [hL,<- s1];rfl) (.cons (by rw [hL,<- h3];rfl) .nil)),rfl⟩,by rw [hL];exact qm _ h1,by rw [hL];exact qm _ h2,by rw [hL];exact f3,h4.alloc h4.size _⟩
 rintro _ X ⟨fX,fR,f0,hbX⟩;have zero:zkO x r=zp->∀ {Y:Wd},Bw X Y->SatR ((storeVar 30 ⟨L+2,0,none⟩ (.agg (zd zp).toArray)).run PG Y) fun _ w'=>∃ cells,cells.length=49/\zw w' ⟨L+2,0,none⟩ cells/\Ending.returned (.agg cells.toArray) = .returned (.agg (zd (zkO x r)).toArray)/\Bw w w':=fun h0 {Y} hb=>by
  rw [h0];exact zbp (zb hb f0) (by omega) ((zst hbX hb)) fun Z fZ bZ=>⟨zd zp,ze _,za fZ,rfl,bZ⟩
 refine⟨exC x q c,zI _ _ _,za fX,hlt fX,zd r,ze _,za fR,hlt fR,cmo (zqz (hv.below hbX) hr (hT.below hbX)) ?_⟩;rintro e Y ⟨rfl,hbY⟩;have bY:=zst hbX hbY;have fY:=zb hbY fX;refine biE (fun h2=>?_) fun h2=>?_
 ·have h2:zby x r=false:=zkz h2;refine⟨zd zp,by kernel_rfl,?_⟩;exact zero (Gy fun h=>by rw [h2] at h;cases h) hbY
 ·have h2:zby x r=true:=zky h2;have h3:=zeS h2;have e0:zkO x r=zmd x r:=Gz h2;rw [e0];refine⟨i64 r.n,by have:=zc (za (zb hbY fR)) (i:=0) (v:=i64 r.n) rfl;exact this,?_⟩;have en:zmd x r=zbe x.ev.length fun a d=>zg r a d&&decide ((evA x a).th=(evA x d).th):=by
   unfold zmd;rw [h3.2.1];rfl
  rw [h3.2.1,en];refine cmo (zha (n:=x.ev.length) (caps := #[At0 (L+1),At0 L]) (g:=148) (p:=fun a d=>zg r a d&&decide ((evA x a).th=(evA x d).th)) (by omega) (by kernel_rfl) fun a d Z ha hd hb=>zuu (zb hb (zb hbY fR)) hr (zb hb fY) ((hv.below bY).below hb) ha hd) ?_;rintro e Z ⟨rfl,hbZ⟩;rw [<- en];exact zbp (zb hbZ (zb hbY f0)) (by omega) ((zst bY hbZ)) fun V fV bV=>⟨zd (zmd x r),ze _,za fV,rfl,bV⟩
end
def sqR (r:RelD):RelD:=ju r.n.toNat fun a=>r.to a|||zdi r.to (r.to a)
def eqR (a b:RelD):Bool:=decide (a.n=b.n)&&(List.range 48).all fun i=>decide (a.to i=b.to i)
def zts:Nat->RelD->RelD
 | 0,r=>r
 | f+1,r=>if eqR (sqR r) r then r else zts f (sqR r)
def zkq (r:RelD):RelD:=if okR r then zts 2400 r else zp
def zmR (r:RelD):RelD:=if okR r then (zK (zkq r) (idR r.n.toNat (jx r.n))).1 else zp
def zut (r:RelD):Bool:=okR r&&(List.range r.n.toNat).all fun a => !(r.to a).testBit a
def zaZ (e:Ev) (s:Bs):Bool :=
 let rd:=decide (e.k=1);let wr:=decide (e.k=2);let fe:=decide (e.k=3)
 if s=[82] then rd
 else if s=[87] then wr
 else if s=[70] then fe
 else if s=[77] then rd||wr
 else if s=[65] then rd&&(decide (e.m=1)||decide (e.m=3))
 else if s=[76] then wr&&(decide (e.m=2)||decide (e.m=3))
 else if s=[88] then (rd||wr)&&decide (e.m=3)
 else if s=[70,70] then fe&&decide (e.m=3)
 else if s=[70,76] then fe&&decide (e.m=4)
 else if s=[70,83] then fe&&decide (e.m=5)
 else if s=[73] then decide (e.th = -1)
 else false
def zdJ (x:ExD) (s:Bs):Nat:=orG ((List.range x.ev.length).filter fun i=>match x.ev[i]? with | some e=>zaZ e s | none=>false)
def qb (x:ExD):Bs->RelD:=fun s =>
 let n:=x.ev.length
 let cr:=zaU n (jx n) (jx n)
 if s=[112,111] then x.po else if s=[114,102] then x.rf else if s=[99,111] then x.co else if s=[114,109,119] then x.rm
 else if s=[100,97,116,97] then x.dt else if s=[99,116,114,108] then x.ct else if s=[102,114] then frX x else if s=[108,111,99] then zkH x
 else if s=[105,100] then idR n (jx n) else if s=[101,120,116] then zk2 x cr else if s=[105,110,116] then zkO x cr else zp
section
variable (x:ExD) (rels:Bs->RelD)
def un3 (k:UInt8) (a:RelD):RelD:=if k=6 then qE a else if k=7 then zkq a else zmR a
def zxw (k:UInt8) (a b:RelD):RelD:=if k=2 then (zK a b).1 else if k=3 then (qK a b).1 else if k=4 then (zdU a b).1 else if k=5 then (qf a b).1 else zp
mutual
def valT:Trm->RelD
 | .mk k nq kids =>
  if k=1 then rels nq
  else if k=9 then idR x.ev.length (zdJ x nq)
  else if k=6\/k=7\/k=8 then un3 k (valH kids)
  else zxw k (valH kids) (valS kids)
def valH:List Trm->RelD
 | []=>zp
 | t::_=>valT t
def valS:List Trm->RelD
 | []=>zp
 | _::r=>valH r
end
end
def qx (rels:Bs->RelD) (s:Bs) (r:RelD):Bs->RelD:=fun t=>if t=s then r else rels t
def jo (x:ExD):(Bs->RelD)->List LineD->Bool×Bs
 | _,[]=>(true,[])
 | g,l::r =>
  let v:=valT x g l.term
  if l.kind=0 then jo x (qx g l.name v) r
  else if (if l.kind=1 then jg v else if l.kind=2 then zut v else zaS v) then jo x g r
  else (false,l.name)
def zhF (l:List LineD) (x:ExD):Option (Bool×Bs) :=
 if (jN l).isSome&&zS x then some (jo x (qb x) l) else none
end Go.Proofs.YtnadlhpkpnfmbaaGreatDoor
namespace Go.Vc
open Go.RowKit
section
variable {P:Program} {κ:Type} [DecidableEq κ] {key:κ->Value} {K:TypeId}
theorem zaa {T elem:TypeId} (hK:MapK P K key) (hu:P.underlying T=some (.map K elem)) {w:Wd} {r:Nat} {f:κ->Option Value} (h:MapF key w r f) (q:κ) (x:Value) :
  ∃ o,(Instr.mapUpdate T (.map (some r)) (key q) x).run P w = .ok () (w.putObj r o)/\MapF key (w.putObj r o) r (fun q'=>if q'=q then some x else f q'):=by
 obtain⟨es,clock,hh,hf,hn,hb,hc⟩:=h;have hg:(getObj r).run P w = .ok (.map (es.map (entry key)).toArray clock) w:=by simp [getObj,Sem.run,hh]
 have hset:∀ o,(setObj r o).run P w = .ok () (w.putObj r o):=fun o=>by simp [setObj,Sem.run,hh,World.putObj]
 have e:asF es q=f q:=hf q;unfold asF at e;simp only [Instr.mapUpdate,Ga,Uv hu,Qa,hg,hK.check q _ w,zgv hK q es w]
 cases hfl:zbz q es 0 with
 | none =>
  rw [hfl] at e;simp only [Option.map_none] at e;refine⟨.map ((es++[(q,x,clock)]).map (entry key)).toArray (clock+1),?_,?_⟩
  ·have e2:(es.map (entry key)).toArray.push { key:=key q,val:=x,born:=clock }=((es++[(q,x,clock)]).map (entry key)).toArray:=by
    rw [<- Qe];simp [entry]
   simp only [e2,hset]
  ·refine⟨es++[(q,x,clock)],clock+1,zbx hh,fun q'=>?_,?_,?_,?_⟩
   ·rw [zhY];by_cases hq:q'=q
    ·subst hq;rw [hf q',<- e];simp
    ·simp [hq,hf q']
   ·rw [QT,UF,UN];refine List.nodup_append.2 ⟨hn,by simp,?_⟩;intro a ha b hb';simp only [KA] at hb';subst hb';obtain⟨y,hy,rfl⟩:=UP.1 ha;exact zhK hfl y hy
   ·rw [QT,UF,UN];refine List.nodup_append.2 ⟨hb,by simp,?_⟩;intro a ha b hb';simp only [KA] at hb';subst hb';obtain⟨y,hy,rfl⟩:=UP.1 ha;exact Nat.ne_of_lt (hc y hy)
   ·intro y hy;rw [QU] at hy;rcases hy with hy | hy
    ·exact Nat.lt_succ_of_lt (hc y hy)
    ·simp only [KA] at hy;subst hy;exact QA _
 | some p =>
  obtain⟨j,v⟩:=p;obtain⟨b,_,hj⟩:=zhJ hfl;rw [UX] at hj;have hm:(q,v,b)∈es:=JY hj;have hje:(es.map (entry key)).toArray[j]?=some (entry key (q,v,b)):=by simp [hj]
  have only:∀ i (hi:i<es.length),(es[i]).2.2=b->i=j:=fun i hi hbe=>by
   obtain⟨hjl,e2⟩:=Jq.1 hj;by_cases hij:i=j
   ·exact hij
   ·exfalso
    have h3:=(List.pairwise_iff_getElem.1 hb);rcases Nat.lt_or_gt_of_ne hij with hlt | hlt
    ·exact h3 i j (by simpa using hi) (by simpa using hjl) hlt (by simp [e2,hbe])
    ·exact h3 j i (by simpa using hjl) (by simpa using hi) hlt (by simp [e2,hbe])
  have hbq:∀ y∈es,y.2.2=b->y.1=q:=fun y hy hbe=>by
   obtain⟨i,hi,e1⟩:=Kh hy;have:=only i hi (by rw [e1];exact hbe);subst this;obtain⟨_,e2⟩:=Jq.1 hj;rw [<- e1,e2]
  have hmod:(es.map (entry key)).toArray.modify j (fun e=>{ e with key:=key q,val:=x })=((es.map fun e=>if e.2.2=b then (e.1,x,e.2.2) else e).map (entry key)).toArray:=by
   apply Array.ext_getElem?;intro i;rw [Array.getElem?_modify];by_cases hil:i<es.length
   ·by_cases hij:j=i
    ·subst hij;obtain⟨_,e2⟩:=Jq.1 hj;rw [Gz rfl,hje];simp [hil,e2,entry]
    ·rw [Gy hij];have:¬ (es[i]).2.2=b:=fun h=>hij (only i hil h).symm;simp [hil,this]
   ·have h1:(es.map (entry key)).toArray[i]?=none:=(by simp;omega);have h2:((es.map fun e=>if e.2.2=b then (e.1,x,e.2.2) else e).map (entry key)).toArray[i]?=none:=(by simp;omega);rw [h1,h2];split <;> rfl
  refine⟨.map ((es.map fun e=>if e.2.2=b then (e.1,x,e.2.2) else e).map (entry key)).toArray clock,?_,?_⟩
  ·simp only [hje,Uf,QE,entry,Instr.keyThatStays,hK.same q,Gx,Gb,Qa,Ga];have hmod':=hmod;rw [hmod',hset]
  ·refine⟨_,clock,zbx hh,fun q'=>?_,?_,?_,?_⟩
   ·rw [znF x q q' es hn ⟨v,hm⟩ hbq,hf q']
   ·have:(es.map fun e=>if e.2.2=b then (e.1,x,e.2.2) else e).map (·.1)=es.map (·.1):=by
     rw [UM];apply Kj;intro e _;simp only [Ke];split <;> rfl
    rw [this];exact hn
   ·have:(es.map fun e=>if e.2.2=b then (e.1,x,e.2.2) else e).map (·.2.2)=es.map (·.2.2):=by
     rw [UM];apply Kj;intro e _;simp only [Ke];split <;> rfl
    rw [this];exact hb
   ·intro e he;obtain⟨y,hy,rfl⟩:=UP.1 he
    split
    ·exact hc y hy
    ·exact hc y hy
end
end Go.Vc
namespace Go.Proofs.YtnadlhpkpnfmbaaGreatDoor
open Go.Vc Go.RowKit
abbrev zbQ (s:Bs):Value:=zu s
theorem zwN (a b:ByteArray):(a == b)=true↔a=b:=by
 rw [beq_toListBytes,beq_iff_eq,Kd,Kd];constructor
 ·intro h;obtain⟨⟨x⟩⟩:=a;obtain⟨⟨y⟩⟩:=b;exact Gs (fun l:List UInt8=>(⟨⟨l⟩⟩:ByteArray)) h
 ·rintro rfl;rfl
theorem ziN (a:Bs):(bs a == bs a)=true:=(zwN _ _).2 rfl
theorem znh (a b:Bs):(bs a == bs b)=decide (a=b):=by
 by_cases h:a=b
 ·subst h;rw [ziN,Uu rfl]
 ·rw [Uj h];exact Bool.eq_false_iff.2 fun e=>h (zu2 ((zwN _ _).1 e))
theorem zxu (d:Nat) (x y:Bs) (w:Wd):(Op.equalIn (d+1) 9 (zbQ x) (zbQ y)).run PG w = .ok (decide (x=y)) w:=by
 simp only [Op.equalIn,Ga,Uv Tryz.underlying9,Qa,Gb,zu];rw [znh]
theorem zwE (e:Bool) (d:Nat) (q:Bs) (w:Wd):(Instr.checkKey e (d+1) 9 (zbQ q)).run PG w = .ok () w:=by
 simp only [Instr.checkKey,Ga,Uv Tryz.underlying9,Qa,Gb,zu]
theorem zj2:MapK PG 9 zbQ where
 check:=fun q e w=>zwE e 9999 q w
 eq:=fun q q' w=>zxu 9999 q q' w
 same:=fun q=>by simp only [Instr.sameBits,zu];exact ziN q
 desc:=⟨_,Tryz.underlying9,fun q q'=>by
  right;simp only [Instr.sameNow,zu];rw [znh]⟩
end Go.Proofs.YtnadlhpkpnfmbaaGreatDoor
