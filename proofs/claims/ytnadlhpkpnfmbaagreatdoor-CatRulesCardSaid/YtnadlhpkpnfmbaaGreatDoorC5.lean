/- Contracts of functions, and plain facts, for the law that the last text of this claim proves. -/
import Derived.Test.YtnadlhpkpnfmbaaGreatDoorC4
import Derived.Test.YtnadlhpkpnfmbaaGreatDoorC1
import Derived.Test.YtnadlhpkpnfmbaaGreatDoorC2
import Derived.MapKept
import Derived.Laws.StructEq
import Derived.Shelf.Strings.Builder1
import Derived.Shelf.Strings.Builder2
import Derived.Shelf.Small.Strs
import Derived.Shelf.Strings.BuilderF
import Derived.Shelf.Strings.Search1
import Derived.Shelf.Strings.Search2
import Derived.Shelf.Strings.Search3
import Derived.Shelf.Strings.Count
import Derived.Shelf.LaysM
import Derived.Shelf.Strings.Shaped
import Derived.Shelf.Strings.Prefix
import Derived.Shelf.Strings.Split
import Derived.Shelf.Strings.Replace
import Derived.Shelf.Bits.Mul64
import Derived.Shelf.Strings.Repeat
import Derived.Shelf.Unicode.DecodeSlow
import Derived.Test.YtnadlhpkpnfmbaaGreatDoorProg
set_option linter.unusedSimpArgs false
set_option linter.unusedVariables false
namespace Go.Proofs.YtnadlhpkpnfmbaaGreatDoor
open Go.Vc Go.RowKit Go.Sei
theorem zt7 {bx n:Nat} {w:Wd} {i:Nat} (f:w.heap[bx]?=some (.cells #[i64 (n:Nat)] 3 (0,0))) (hn:n<=1000):Calls PG 132 #[i64 (i:Nat),At0 bx] w fun e w'=>e = .returned (.bool true)/\w'.heap[bx]?=some (.cells #[i64 (n+1:Nat)] 3 (0,0))/\w.grownBy w' (some bx):=by
 refine zI 6 [i64 (i:Nat),At0 bx] Tryz.func132 ?_;exact⟨_,zc (za f) (i:=0) rfl,nxI (by omega) (zw k3 f (o:=0) (v:=i64 (n+1:Nat)) rfl rfl (by show 0<1;decide) rfl fun w' f' g' s'=>⟨rfl,f',g'⟩)⟩
theorem zkz {bs bx s:Nat} {w:Wd} (fs:w.heap[bs]?=some (.cells #[s64 s] 27 (0,0))) (fx:w.heap[bx]?=some (.cells #[i64 (0:Nat)] 3 (0,0))) (hs:s<2^64) (hT:Tz64M w) (hbx:4≠bx) :
  Calls PG 151 #[.func (.func 132) #[] #[At0 bx],At0 bs] w fun e w'=>(∃ v,e = .returned v)/\w'.heap[bx]?=some (.cells #[i64 (zcy s:Nat)] 3 (0,0))/\w.grownBy w' (some bx):=by
 refine zI 16 [.func (.func 132) #[] #[At0 bx],At0 bs] Tryz.func151 ?_;refine⟨_,zc (za fs) (i:=0) rfl,Nat×Nat,fun q=>⟨[(0,.func (.func 132) #[] #[At0 bx]),(3,s64 q.2)],[]⟩,fun q X=>X.heap[bx]?=some (.cells #[i64 (q.1:Nat)] 3 (0,0))/\q.1+zcy q.2=zcy s/\q.2<2^64/\w.grownBy X (some bx),fun q=>q.2,(0,s),(cvE rfl rfl),⟨fx,Gb _,hs,jQ _ _⟩,?_⟩;rintro⟨n,r⟩ X ⟨f,hn,hr,gX⟩;dsimp only at f hn hr ⊢;have hls:=zdQ s;refine biE (fun hc=>?_) fun hc=>?_
 ·have hc:(!decide ((r:Int)=0))=true:=hc;have hc:¬ (r:Int)=0:=by simpa using hc
  have hr0:r≠0:=by omega
  obtain⟨e1,e2,_,_⟩:=jD hr0 hr;have hl:zcy r=zcy (qI r)+1:=by unfold zcy;rw [e1];rfl
  have hTX:Tz64M X:=zae hT (gX.block _ (zaf hT) (by simpa using hbx));refine cmo (zox hTX hr0 hr) ?_;rintro e _ ⟨rfl,rfl⟩;have hn64:n<=1000:=by unfold zcy at hn;omega
  refine cmo (zt7 f hn64) ?_;rintro e V ⟨rfl,fV,gV⟩;exact brF ⟨((r-1:Nat):Int),(zeu (a:=(r:Int)-1) (by omega)).trans (by omega),((qI r:Nat):Int),jI (a:=r) (b:=r-1) hr (by omega),(n+1,qI r),(cvE rfl rfl),⟨fV,by show n+1+zcy (qI r)=_;omega,by show qI r<_;omega,zg gX gV⟩,e2⟩
 ·have hc:(!decide ((r:Int)=0))=false:=hc;have hc:(r:Int)=0:=by simpa using hc
  obtain rfl:r=0:=by omega
  have h0:zcy 0=0:=rfl;rw [h0,UU] at hn;exact⟨⟨_,rfl⟩,by rw [<- hn];exact f,gX⟩
theorem zsH {s:Nat} {w:Wd} (hs:s<2^64) (hT:Tz64M w):CB 83 #[s64 s] w (i64 (zcy s:Nat)):=by
 refine zU 11 [s64 s] (.s .p (.c .p .p)) Tryz.func83 ?_;obtain⟨L,hL⟩:=nm (w.heap.size);refine⟨Unit,fun _=>⟨[(0,s64 s),(3,At0 L)],[]⟩,fun _ Y=>Y.heap[L]?=some (.cells #[i64 (0:Nat)] 3 (0,0))/\Y.heap.size=L+1/\Bw w Y,?_,?_⟩
 ·refine zl (X:=w) (v:=i64 0) k3 rfl rfl rfl fun Y hbY fY sY=>?_;have fY:Y.heap[w.heap.size]?=some (.cells #[i64 (0:Nat)] 3 (0,0)):=fY;exact⟨(),⟨.cons rfl (.cons (by rw [hL];rfl) .nil),rfl⟩,by rw [hL];exact fY,by rw [hL];exact sY,hbY⟩
 rintro _ Y ⟨fY,sY,hbY⟩;refine cmo zeo ?_;rintro e _ ⟨rfl,rfl⟩;have hb2:Bw Y (Y.alloc (.cells #[s64 s] 27)):=zba _ _;have htl:=zaf hT;refine cmo (zkz (zt Y _) (zb hb2 fY) hs ((hT.below hbY).below hb2) (by omega)) ?_;rintro e Z ⟨⟨v,rfl⟩,fZ,gZ⟩;exact⟨_,zc (za fZ) (i:=0) rfl,rfl,((zst hbY hb2)).trans (zo gZ (by have:=hbY.size;have:=hb2.size;omega) (by omega))⟩
def zjf (x y:Nat):Int:=if x<y then -1 else if y<x then 1 else 0
theorem zpm {x:Nat} {w:Wd}:Calls PG 131 #[i64 (x:Nat)] w fun e w'=>e = .returned (.bool false)/\w=w':=by
 refine zI 6 [i64 (x:Nat)] Tryz.func131 ?_;exact⟨rb (by simp),rfl⟩
theorem zl1 {x y:Nat} {w:Wd}:Calls PG 82 #[i64 (x:Nat),i64 (y:Nat)] w fun e w'=>e = .returned (i64 (zjf x y))/\w=w':=by
 refine zI 20 [i64 (x:Nat),i64 (y:Nat)] Tryz.func82 ?_;refine cmo zpm ?_;rintro e _ ⟨rfl,rfl⟩;refine cmo zpm ?_;rintro e _ ⟨rfl,rfl⟩;refine brF (brF (biE (fun h=>?_) fun h=>?_))
 ·have h:(x:Int)<y:=dT h;exact⟨ri (by unfold zjf;rw [GC (by omega)]),rfl⟩
 have h:¬ (x:Int)<y:=dF h;refine biE (fun h2=>?_) fun h2=>?_
 ·have h2:(y:Int)<x:=dT h2;exact⟨ri (by unfold zjf;rw [GB (by omega),GC (by omega)]),rfl⟩
 ·have h2:¬ (y:Int)<x:=dF h2;exact⟨ri (by unfold zjf;rw [GB (by omega),GB (by omega)]),rfl⟩
section
variable {b c L:Nat} {x:ExD} {q:OA} {w:Wd}
theorem zp6 {X:Wd} (fx:ExH X b x q c) {i:Nat} (hi:i<48):X.cell? ⟨b,0+99+1+i*1,none⟩=some (s64 (x.co.to i)):=by
 obtain⟨A,T,hA,hE⟩:=zlF x q c;have hR:RelAt X b 99 37 A T x.co:=⟨hA,by rw [<- hE];exact fx⟩;exact hR.cell hi
theorem ztP {u v:Nat} (fx:ExH w b x q c) (fL:w.heap[L]?=some (.cells #[At0 b] 86 (0,0))) (hco:zE x.co.to) (hu:u<48) (hv:v<48) (hT:Tz64M w) :
  CB 81 #[i64 (u:Nat),i64 (v:Nat),At0 L] w (i64 (zjf (zcy (x.co.to v)) (zcy (x.co.to u)))):=by
 refine zI 23 [i64 (u:Nat),i64 (v:Nat),At0 L] Tryz.func81 ?_;refine DrawE.ord [] [0,1,2,3,4,5,6,8,9,10,11,12,13,14,7,15,16,17] (by kernel_rfl) ?_;have hd:Bw w w.drew:=(Gm _ _).drew;refine⟨_,zc (za (hdr fL)) (i:=0) rfl,v,rfl,hv,_,zp6 (hdr fx) hv,_,zc (za (hdr fL)) (i:=0) rfl,u,rfl,hu,_,zp6 (hdr fx) hu,cmo (zsH (hco v hv) (hT.below hd)) ?_⟩;rintro e X ⟨rfl,hbX⟩;refine⟨hbX,cmo (zsH (hco u hu) ((hT.below hd).below hbX)) ?_⟩;rintro e Y ⟨rfl,hbY⟩;refine⟨hbY,cmo zl1 ?_⟩;rintro e _ ⟨rfl,rfl⟩;exact⟨Gm _ _,rfl,(hd.trans hbX).trans (hbY.mono hbX.size)⟩
end
theorem zha {key:Nat->Nat} {x:Nat}:∀ (B A:List Nat),(∀ y∈B,key y<key x)->zaa key (B++A) x=B++zaa key A x
 | [],A,_=>rfl
 | y::B,A,h=>by
  show (if key y<key x then y::zaa key (B++A) x else x::y::(B++A))=_;rw [GC (h y KB),zha B A fun z hz=>h z (JW _ hz)];rfl
theorem zg9 {key:Nat->Nat} {x:Nat}:∀ r:List Nat,(zaa key r x).length=r.length+1
 | []=>rfl
 | y::r=>by
  unfold zaa
  split
  ·show (zaa key r x).length+1=_;rw [zg9 r];rfl
  ·rfl
theorem zg8 {key:Nat->Nat} {x a:Nat}:∀ r:List Nat,a∈zaa key r x↔a=x\/a∈r
 | []=>by simp [zaa]
 | y::r=>by
  unfold zaa
  split
  ·rw [UJ,zg8 r,UJ];constructor
   ·rintro (h | h | h) <;> simp [h]
   ·rintro (h | h | h) <;> simp [h]
  ·simp
def zez (key:Nat->Nat) (l:List Nat):List Nat:=l.foldl (fun acc x=>zaa key acc x) []
theorem zk6 (key:Nat->Nat) (l:List Nat) (x:Nat):zez key (l++[x])=zaa key (zez key l) x:=by
 unfold zez;rw [KV];rfl
theorem zcq {key:Nat->Nat} {a:Nat}:∀ (l acc:List Nat),a∈l.foldl (fun acc x=>zaa key acc x) acc↔a∈l\/a∈acc
 | [],acc=>by simp
 | x::l,acc=>by
  rw [QR,zcq l,zg8,UJ];constructor
  ·rintro (h | h | h) <;> simp [h]
  ·rintro ((h | h) | h) <;> simp [h]
theorem zcr {key:Nat->Nat}:∀ (l acc:List Nat),(l.foldl (fun acc x=>zaa key acc x) acc).length=l.length+acc.length
 | [],acc=>by simp
 | x::l,acc=>by
  rw [QR,zcr l,zg9,Qu];omega
theorem zna {key:Nat->Nat} {l:List Nat} {a:Nat}:a∈zdW key l↔a∈l:=by
 unfold zdW;rw [List.mem_reverse,zcq];simp
theorem znb {key:Nat->Nat} (l:List Nat):(zdW key l).length=l.length:=by
 unfold zdW;rw [Kj,zcr];rfl
section
variable {b c L g cap:Nat} {x:ExD} {q:OA} {w:Wd} {l:List Nat}
abbrev zcQ (x:ExD):Nat->Nat:=fun i=>zcy (x.co.to i)
theorem zg7 {B:Nat} (ho:OwnS zC 3 B w (some ⟨g,0,none⟩) cap l) (fx:ExH w b x q c) (fL:w.heap[L]?=some (.cells #[At0 b] 86 (0,0))) (hT:Tz64M w) (htg:4≠g) (hco:zE x.co.to) (h48:∀ a∈l,a<48) (hn:l.length<=20) (hn1:1<=l.length) :
  Calls PG 177 #[.slice (some ⟨g,0,none⟩) l.length cap,i64 0,i64 l.length,.func (.func 81) #[] #[At0 L]] w fun e w'=>e = .returned (.tuple #[])/\OwnS zC 3 B w' (some ⟨g,0,none⟩) cap (zdW (zcQ x) l)/\w.grownBy w' (some g):=by
 refine zU 53 [.slice (some ⟨g,0,none⟩) l.length cap,i64 0,i64 l.length,.func (.func 81) #[] #[At0 L]] (.c .p .p) Tryz.func177 ?_;obtain⟨E0,hE0⟩:∃ E0:List (Nat×Value),E0=[(0,.slice (some ⟨g,0,none⟩) l.length cap),(1,i64 0),(2,i64 l.length),(3,.func (.func 81) #[] #[At0 L])]:=⟨_,rfl⟩;have hbg:b≠g:=fun e=>by
  obtain⟨_,_,cur,hc⟩:=zy ho rfl;have hc:w.heap[g]?=_:=hc;rw [<- e,fx] at hc;simp at hc
 have hLg:L≠g:=fun e=>by
  obtain⟨_,_,cur,hc⟩:=zy ho rfl;have hc:w.heap[g]?=_:=hc;rw [<- e,fL] at hc;simp at hc
 refine⟨Unit,fun _=>⟨[(0,.slice (some ⟨g,0,none⟩) l.length cap),(1,i64 0),(2,i64 l.length),(3,.func (.func 81) #[] #[At0 L]),(8,i64 1)],[]⟩,fun _ X=>w=X,?_,?_⟩
 ·exact⟨1,zi (by omega),(),(cvE rfl rfl),rfl⟩
 rintro _ _ rfl;have hl0:l.take 1=(zez (zcQ x) (l.take 1)).reverse:=by
  cases l with
  | nil=>simp at hn1
  | cons a l=>rfl
 refine⟨Nat,fun i=>⟨[(0,.slice (some ⟨g,0,none⟩) l.length cap),(1,i64 0),(2,i64 l.length),(3,.func (.func 81) #[] #[At0 L]),(8,i64 (i:Nat))],[]⟩,fun i X=>(1<=i/\i<=l.length)/\OwnS zC 3 B X (some ⟨g,0,none⟩) cap ((zez (zcQ x) (l.take i)).reverse++l.drop i)/\w.grownBy X (some g),fun i=>l.length-i,1,
  (cvE rfl rfl),⟨⟨Gh _,hn1⟩,by rw [<- hl0,JQ];exact ho,jQ _ _⟩,?_⟩
 rintro i X ⟨⟨hi1,hi⟩,oX,gX⟩;dsimp only;refine biE (fun hc=>?_) fun hc=>?_
 ·have hc:(i:Int)<(l.length:Int):=dT hc;have hil:i<l.length:=by omega
  obtain⟨u,hu⟩:∃ u,l[i]=u:=⟨_,rfl⟩;have hum:u∈l:=by rw [<- hu];exact gM hil
  obtain⟨S,hS⟩:=nm (zez (zcQ x) (l.take i));have hSm:∀ a∈S,a<48:=fun a ha=>by
   rw [hS] at ha;have:=(zcq (key:=zcQ x) (l.take i) []).1 ha;rcases this with h | h
   ·exact h48 a (JZ h)
   ·cases h
  have hSl:S.length=i:=by
   rw [hS];unfold zez;rw [zcr,Qw];simp;omega
  have htk:zez (zcQ x) (l.take (i+1))=zaa (zcQ x) S u:=by
   rw [tsg hil,hu,zk6,<- hS]
  rw [<- hS,<- JD hil,hu] at oX;refine⟨List Nat×List Nat,fun s=>⟨[(0,.slice (some ⟨g,0,none⟩) l.length cap),(1,i64 0),(2,i64 l.length),(3,.func (.func 81) #[] #[At0 L]),(8,i64 (i:Nat)),(9,i64 s.1.length)],[]⟩,fun s Y=>S.reverse=s.1++s.2/\(∀ y∈s.2,zcQ x y<zcQ x u)/\OwnS zC 3 B Y (some ⟨g,0,none⟩) cap (s.1++u::(s.2++l.drop (i+1)))/\w.grownBy Y (some g),fun s=>s.1.length,(S.reverse,[]),
   ⟨.cons rfl (.cons rfl (.cons rfl (.cons rfl (.cons rfl (.cons (by show _=some (i64 (S.reverse.length:Nat));rw [Kj,hSl];rfl) .nil))))),rfl⟩,⟨by rw [QO],fun y hy=>(by cases hy),oX,gX⟩,?_⟩
  clear oX gX;rintro⟨A,Bs⟩ Y ⟨hsp,hkB,oY,gY⟩;dsimp only at hsp hkB oY ⊢;have hAl:A.length<=i:=by
   have:=Gw List.length hsp;rw [Kj,hSl,lap] at this;omega
  have hdY:Bw Y Y.drew:=(Gm _ _).drew;have fin:∀ {Z:Wd},Bw Y Z->zaa (zcQ x) A.reverse u=u::A.reverse->((1<=i+1/\i+1<=l.length)/\OwnS zC 3 B Z (some ⟨g,0,none⟩) cap ((zez (zcQ x) (l.take (i+1))).reverse++l.drop (i+1))/\w.grownBy Z (some g)):=fun {Z} hb hins=>by
   refine⟨⟨by omega,hil⟩,?_,jh gY (hb.mono gY.size)⟩;have h1:S=Bs.reverse++A.reverse:=by rw [<- Km,<- hsp,List.reverse_reverse]
   rw [htk,h1,zha _ _ (fun y hy=>hkB y (by simpa using hy)),hins];have h2:(Bs.reverse++u::A.reverse).reverse++l.drop (i+1)=A++u::(Bs++l.drop (i+1)):=by simp
   rw [h2];exact oY.below hb
  refine DrawE.ord [] [0,1,2,3,4,5,6,7,8,9,10,11,12,13,14,15,16] (by kernel_rfl) (biE (fun h=>?_) fun h=>?_)
  ·have h:(0:Int)<(A.length:Int):=dT h;obtain⟨A',y,hA⟩:∃ A' y,A=A'++[y]:=by
    refine⟨A.dropLast,A.getLast (fun e=>by rw [e] at h;simp at h),(List.dropLast_concat_getLast _).symm⟩
   subst hA;have hA'l:(A'++[y]).length=A'.length+1:=by simp
   rw [hA'l] at hAl h ⊢;have hrl:((A'++[y])++u::(Bs++l.drop (i+1))).length=l.length:=by
    have:=Gw List.length hsp;rw [Kj,hSl] at this;simp only [lap,Qu,QT,Qv] at this ⊢;omega
   have hyS:y<48:=hSm y (by
    have:y∈S.reverse:=(by rw [hsp];simp);simpa using this)
   obtain⟨b',o',hq',hb',hat'⟩:=oY.row.at (i:=A'.length) (by rw [hrl];omega);have hbo:b'=g/\o'=0:=by simpa using hq'.symm
   obtain⟨rfl,rfl⟩:=hbo;have c1:Y.cell? ⟨b',0+(A'.length+1)*1,none⟩=some (i64 u):=by
    have:=zc (hat' (A'.length+1) (by rw [hrl];omega)) (i:=0) (v:=i64 u) (by
     have e:((A'++[y])++u::(Bs++l.drop (i+1)))[A'.length+1]?=some u:=by
      rw [Jl (by simp),hA'l,UZ];rfl
     rw [gE (by rw [hrl];omega)] at e;rw [Ui e];rfl)
    exact this
   have c2:Y.cell? ⟨b',0+A'.length*1,none⟩=some (i64 y):=by
    have:=zc (hat' A'.length (by rw [hrl];omega)) (i:=0) (v:=i64 y) (by
     have e:((A'++[y])++u::(Bs++l.drop (i+1)))[A'.length]?=some y:=by
      rw [KR,Jl (Gh _),UZ];rfl
     rw [gE (by rw [hrl];omega)] at e;rw [Ui e];rfl)
    exact this
   refine⟨A'.length+1,rfl,by omega,?_⟩;refine⟨_,c1,(A'.length:Nat),(zi (by omega)).trans (by omega),A'.length,rfl,by omega,?_⟩;refine⟨_,c2,?_⟩;have fxY:ExH Y b x q c:=(gY.block b (hlt fx) (by simpa using hbg)).trans fx;have fLY:Y.heap[L]?=some (.cells #[At0 b] 86 (0,0)):=(gY.block L (hlt fL) (by simpa using hLg)).trans fL;have hTY:Tz64M Y:=zae hT (gY.block _ (zaf hT) (by simpa using htg));refine cmo (ztP (hdr fxY) (hdr fLY) hco (h48 u hum) hyS (hTY.below hdY)) ?_;rintro e Z ⟨rfl,hbZ⟩;refine⟨hbZ,?_⟩;have hYZ:=hdY.trans hbZ;refine biE (fun hm=>?_) fun hm=>?_
   ·have hm:zjf (zcy (x.co.to y)) (zcy (x.co.to u))<0:=dT hm;have hk:zcQ x y<zcQ x u:=by
     unfold zjf at hm;by_cases h1:zcy (x.co.to y)<zcy (x.co.to u)
     ·exact h1
     ·rw [GB h1] at hm
      split at hm <;> omega
    have oZ:=oY.below hYZ;have gZ:=jh gY (hYZ.mono gY.size);obtain⟨b2,o2,hq2,hb2,hat2⟩:=oZ.row.at (i:=A'.length) (by rw [hrl];omega);have hbo2:b2=b'/\o2=0:=(by simpa using hq2.symm);obtain⟨rfl,rfl⟩:=hbo2;have dZ:Bw Z Z.drew:=(Gm _ _).drew;have d1:=zc0 hYZ c1;have d2:=zc0 hYZ c2;refine DrawE.ord [15,17] [0,1,2,3,4,5,6,7,8,9,10,11,12,13,14,15,16,17] (by kernel_rfl) ⟨(A'.length:Nat),(zi (by omega)).trans (by omega),(A'.length:Nat),(zi (by omega)).trans (by omega),A'.length,rfl,by omega,?_⟩;refine⟨_,d2,A'.length+1,rfl,by omega,?_⟩;refine⟨_,d1,A'.length+1,rfl,by omega,?_⟩;refine ziU (i:=A'.length+1) (v:=y) k3 rfl (oZ.below dZ) (by rw [hrl];omega) fun V oV gV=>⟨A'.length,rfl,by omega,?_⟩;refine ziU (i:=A'.length) (v:=u) k3 rfl oV (by rw [QU,hrl];omega) fun U oU gU=>?_;have e1:(((A'++[y])++u::(Bs++l.drop (i+1))).set (A'.length+1) y).set A'.length u=A'++u::((y::Bs)++l.drop (i+1)):=by
     rw [KR,JP _ _ (by omega),Jw,JP _ _ (by omega),UZ];rfl
    rw [e1] at oU;refine⟨(A'.length:Nat),(zi (by omega)).trans (by omega),(A',y::Bs),(cvE rfl rfl),⟨by rw [hsp];simp,fun z hz=>?_,oU,zg (zg (jh gZ (dZ.mono gZ.size)) gV) gU⟩,by show A'.length<_;omega⟩;rcases UJ.1 hz with hz | hz
    ·rw [hz];exact hk
    ·exact hkB z hz
   ·have hm:¬ zjf (zcy (x.co.to y)) (zcy (x.co.to u))<0:=dF hm;have hk:¬ zcQ x y<zcQ x u:=fun h=>hm (by unfold zjf;rw [GC h];decide);refine nxI (by omega) ⟨i+1,(cvE rfl rfl),fin hYZ ?_,zdc (by omega)⟩;rw [Km];exact GB hk
  ·have h:¬ (0:Int)<(A.length:Int):=dF h;have hA0:A=[]:=List.length_eq_zero_iff.1 (by omega);subst hA0;exact brF (nxI (by omega) ⟨i+1,(cvE rfl rfl),fin hdY rfl,zdc (by omega)⟩)
 ·have hc:¬ (i:Int)<(l.length:Int):=dF hc;obtain rfl:i=l.length:=by omega
  rw [Qy,Qo,QO] at oX;exact⟨rfl,oX,gX⟩
end
theorem zum:∃ G,TyEq PG 33 true 6 2 G/\∀ f:Nat->UInt8,G (seg 6 fun i=>u8 (f i)):=by
 refine⟨_,.array (m:=6) (by decide) Tryz.underlying33 (fun w=>Tryz.isAgg33 w) (jB (by kernel_rfl) (by kernel_rfl)).1 (by kernel_rfl) tU8,fun f i hi=>⟨((f i).toNat:Int),?_⟩⟩;unfold qE;have h:=zdi (n:=6) (fun i=>u8 (f i)) hi;rw [Gi];have hl:i<(seg 6 fun i=>u8 (f i)).length:=by rw [zK];exact hi
 rw [<- JD hl,List.take_succ_cons,Uu];rw [gE hl] at h;rw [Ui h];rfl
theorem zpq {f g:Nat->UInt8}:seg 6 (fun i=>u8 (f i))=seg 6 (fun i=>u8 (g i))↔((List.range 6).all fun l=>decide (f l=g l))=true:=by
 rw [Ql];constructor
 ·intro h i hi;have hi:=Ut.1 hi;have h3:=zdi (n:=6) (fun i=>u8 (f i)) hi;rw [h,zdi (n:=6) (fun i=>u8 (g i)) hi] at h3;have h4:=Ui h3;unfold u8 at h4;injection h4 with _ h5;exact Ux (jc.1 h5).symm
 ·intro h;unfold seg;refine Kk fun i hi=>?_;rw [dT (h i hi)]
theorem zp1 (x y:Operand) (f g:Nat->UInt8) (w:Wd):(do eqGuard .eql 33 x y (.agg (seg 6 fun i=>u8 (f i)).toArray) (.agg (seg 6 fun i=>u8 (g i)).toArray);binOp .eql 33 (.agg (seg 6 fun i=>u8 (f i)).toArray) (.agg (seg 6 fun i=>u8 (g i)).toArray)).run PG w = .ok (.bool ((List.range 6).all fun l=>decide (f l=g l))) w:=by
 obtain⟨G,h1,h2⟩:=zum;have:=zlG h1 9998 rfl (by kernel_rfl) (zK 6 _) (zK 6 _) (h2 f) (h2 g) x y w;rw [this,zdA zpq,Kd]
section
variable {b c L g cap:Nat} {x:ExD} {q:OA} {w:Wd} {l:List Nat}
theorem zjz {B:Nat} (ho:OwnS zC 3 B w (some ⟨g,0,none⟩) cap l) (fx:ExH w b x q c) (fL:w.heap[L]?=some (.cells #[At0 b] 86 (0,0))) (hT:Tz64M w) (htg:4≠g) (hco:zE x.co.to) (h48:∀ a∈l,a<48) (hn:l.length<=19) (hn1:1<=l.length) :
  Calls PG 130 #[.slice (some ⟨g,0,none⟩) l.length cap,i64 l.length,.func (.func 81) #[] #[At0 L]] w fun e w'=>e = .returned (.tuple #[])/\OwnS zC 3 B w' (some ⟨g,0,none⟩) cap (zdW (zcQ x) l)/\w.grownBy w' (some g):=by
 refine zI 63 [.slice (some ⟨g,0,none⟩) l.length cap,i64 l.length,.func (.func 81) #[] #[At0 L]] Tryz.func130 ?_;refine⟨Unit,fun _=>⟨[(0,.slice (some ⟨g,0,none⟩) l.length cap),(1,i64 l.length),(2,.func (.func 81) #[] #[At0 L]),(6,i64 20),(7,i64 0),(8,i64 20)],[]⟩,fun _ X=>w=X,fun _=>0,(),(cvE rfl rfl),rfl,?_⟩;rintro _ _ rfl;refine brN (Ul (by omega)) (cmo (zg7 ho fx fL hT htg hco h48 (by omega) hn1) ?_);rintro e X ⟨rfl,oX,gX⟩;refine⟨Unit,fun _=>⟨[(1,i64 l.length),(6,i64 20)],[]⟩,fun _ Y=>X=Y,fun _=>0,(),(cvE rfl rfl),rfl,?_⟩;rintro _ _ rfl;exact brN (Ul (by omega)) ⟨rfl,oX,gX⟩
theorem zlA {q:OA} {n m:Nat} (hm:m<=1000):Calls PG 177 #[.slice q n cap,i64 (m:Nat),i64 (m:Nat),.func (.func 81) #[] #[At0 L]] w fun e w'=>e = .returned (.tuple #[])/\w=w':=by
 refine zI 53 [.slice q n cap,i64 (m:Nat),i64 (m:Nat),.func (.func 81) #[] #[At0 L]] Tryz.func177 ?_;refine nxI (by omega) ⟨Unit,fun _=>⟨[(2,i64 (m:Nat)),(8,i64 ((m+1:Nat):Int))],[]⟩,fun _ X=>w=X,fun _=>0,(),(cvE rfl rfl),rfl,?_⟩;rintro _ _ rfl;exact brN (Ul (by omega)) ⟨rfl,rfl⟩
theorem zm9 {B:Nat} (ho:OwnS zC 3 B w (some ⟨g,0,none⟩) cap l) (fx:ExH w b x q c) (fL:w.heap[L]?=some (.cells #[At0 b] 86 (0,0))) (hT:Tz64M w) (htg:4≠g) (hco:zE x.co.to) (h48:∀ a∈l,a<48) (hn:l.length<=20) (hn1:1<=l.length) :
  Calls PG 130 #[.slice (some ⟨g,0,none⟩) l.length cap,i64 l.length,.func (.func 81) #[] #[At0 L]] w fun e w'=>e = .returned (.tuple #[])/\OwnS zC 3 B w' (some ⟨g,0,none⟩) cap (zdW (zcQ x) l)/\w.grownBy w' (some g):=by
 by_cases h19:l.length<=19
 ·exact zjz ho fx fL hT htg hco h48 h19 hn1
 have hn20:l.length=20:=by omega
 refine zI 63 [.slice (some ⟨g,0,none⟩) l.length cap,i64 l.length,.func (.func 81) #[] #[At0 L]] Tryz.func130 ?_;refine⟨Bool,fun k=>⟨[(0,.slice (some ⟨g,0,none⟩) l.length cap),(1,i64 l.length),(2,.func (.func 81) #[] #[At0 L]),(6,i64 20),(7,i64 (if k=true then (0:Nat) else l.length:Nat)),(8,i64 (if k=true then l.length else 40:Nat))],[]⟩,fun k X=>(k=true/\w=X)\/(k=false/\OwnS zC 3 B X (some ⟨g,0,none⟩) cap (zdW (zcQ x) l)/\w.grownBy X (some g)),fun k=>if k=true then 1 else 0,true,⟨.cons rfl (.cons rfl (.cons rfl (.cons rfl (.cons rfl (.cons (by rw [hn20];rfl) .nil))))),rfl⟩,.inl ⟨rfl,rfl⟩,?_⟩;rintro k X (⟨rfl,rfl⟩ | ⟨rfl,oX,gX⟩)
 ·refine brE (Ux (by show ((l.length:Nat):Int)<=(l.length:Int);omega)) (cmo (zg7 ho fx fL hT htg hco h48 hn hn1) ?_);rintro e X ⟨rfl,oX,gX⟩;refine⟨40,by rw [hn20];rfl,?_⟩;exact⟨false,(cvE rfl rfl),.inr ⟨rfl,oX,gX⟩,by decide⟩
 ·refine brN (Ul (by show ¬ ((40:Nat):Int)<=(l.length:Int);omega)) (cmo (zlA (m:=l.length) (by omega)) ?_);rintro e _ ⟨rfl,rfl⟩;refine⟨Unit,fun _=>⟨[(1,i64 l.length),(6,i64 20)],[]⟩,fun _ Y=>X=Y,fun _=>0,(),(cvE rfl rfl),rfl,?_⟩;rintro _ _ rfl;exact brN (Ul (by omega)) ⟨rfl,oX,gX⟩
theorem zhL {B:Nat} (ho:OwnS zC 3 B w (some ⟨g,0,none⟩) cap l) (fx:ExH w b x q c) (fL:w.heap[L]?=some (.cells #[At0 b] 86 (0,0))) (hT:Tz64M w) (htg:4≠g) (hco:zE x.co.to) (h48:∀ a∈l,a<48) (hn:l.length<=20) (hn1:1<=l.length) :
  Calls PG 80 #[.slice (some ⟨g,0,none⟩) l.length cap,.func (.func 81) #[] #[At0 L]] w fun e w'=>e = .returned (.tuple #[])/\OwnS zC 3 B w' (some ⟨g,0,none⟩) cap (zdW (zcQ x) l)/\w.grownBy w' (some g):=by
 refine zI 9 [.slice (some ⟨g,0,none⟩) l.length cap,.func (.func 81) #[] #[At0 L]] Tryz.func80 ?_;refine cmo (zm9 ho fx fL hT htg hco h48 hn hn1) ?_;rintro e X ⟨rfl,h1,h2⟩;exact⟨rfl,h1,h2⟩
theorem znS {l:List Nat} (h:0<l.length):l.headD 48=l[0]:=by
 cases l with
 | nil=>simp at h
 | cons a r=>rfl
theorem zol {k a:Nat} (h:a∈zdg x k):a<x.ev.length:=by
 unfold zdg at h;exact Ut.1 (QX.1 h).1
theorem zmi {k a:Nat} (h:a∈qs x k):a<x.ev.length:=zol (zna.1 h)
theorem ztw (q:OA) (c:Nat):((exC x q c).drop 99).take 49=zf x.co:=by
 obtain⟨A,T,hA,hE⟩:=zlF x q c;show ((exC { x with co:=x.co } q c).drop 99).take 49=_;rw [hE,<- hA,Uq,Jg (by rw [zd];decide),JE (by rw [zd];decide)]
theorem zrJ (q:OA) (c:Nat):((exC x q c).drop 327).take 6=seg 6 fun i=>u8 (x.mem i):=by
 obtain⟨A,T,hA,hE⟩:=zpU x q c [];have:=hE x.mem;rw [QO] at this;show ((exC { x with mem:=x.mem } q c).drop 327).take 6=_;rw [this,<- hA,Uq,Jg (by rw [zK];decide),JE (by rw [zK];decide)]
abbrev zqv (X:Wd) (b:Nat) (f:Nat->UInt8):Prop:=X.heap[b]?=some (.cells (seg 6 fun i=>u8 (f i)).toArray 33 (0,0))
theorem zn4 {locs:Nat} (fx:ExH w b x q c) (hv:ExV w x q) (hlo:locs<=6) (hne:∀ l,l<locs->zdg x l≠[]) (hT:Tz64M w) :
  CB 43 #[At0 b,i64 locs] w (.bool (zcj x locs)):=by
 refine zU 87 [At0 b,i64 locs] (.c .p (.c .p (.c .p (.c .p .p)))) Tryz.func43 ?_;obtain⟨L,hL⟩:=nm (w.heap.size);have hbw:=hlt fx;have hn:=hv.n;have htl:=zaf hT;refine⟨Unit,fun _=>⟨[(1,i64 locs),(2,At0 L)],[]⟩,fun _ X=>X.heap[L]?=some (.cells #[At0 b] 86 (0,0))/\X.heap.size=L+1/\Bw w X,⟨(),⟨.cons rfl (.cons (by rw [hL];rfl) .nil),rfl⟩,by rw [hL];exact zt w _,by rw [hL];exact wz _ _,(zba w _)⟩,?_⟩;rintro _ X ⟨fL,sX,hbX⟩;refine⟨Unit,fun _=>⟨[(1,i64 locs),(2,At0 L),(5,At0 (L+1))],[]⟩,fun _ Y=>zG Y (L+1) ⟨x.ev.length,fun _=>0⟩/\Y.heap.size=L+2/\Bw X Y,?_,?_⟩
 ·refine⟨_,zc (za fL) (i:=0) rfl,_,zc (za (zb hbX fx)) (i:=0) rfl,zf ⟨x.ev.length,fun _=>0⟩,by kernel_rfl,?_⟩;refine zl (X:=X) (v := .agg (zf ⟨x.ev.length,fun _=>0⟩).toArray) k30 (zd _) (by kernel_rfl) (zB _) fun Z hbZ fZ sZ=>?_;rw [sX] at fZ sZ;exact⟨(),⟨.cons rfl (.cons rfl (.cons (by rw [<- sX];rfl) .nil)),rfl⟩,fZ,sZ,hbZ⟩
 rintro _ Y ⟨fT,sY,hbY⟩;refine⟨Unit,fun _=>⟨[(1,i64 locs),(2,At0 L),(5,At0 (L+1)),(6,At0 (L+2))],[]⟩,fun _ Z=>zqv Z (L+2) (fun _=>0)/\zG Z (L+1) ⟨x.ev.length,fun _=>0⟩/\Z.heap[L]?=some (.cells #[At0 b] 86 (0,0))/\Z.heap.size=L+3/\Bw w Z,?_,?_⟩
 ·exact⟨(),⟨.cons rfl (.cons rfl (.cons rfl (.cons (by rw [<- sY];rfl) .nil))),rfl⟩,by rw [<- sY];exact zt Y _,qe _ fT,qe _ (zb hbY fL),by rw [wz,sY],((zst hbX hbY)).alloc (by have:=hbX.size;have:=hbY.size;omega) _⟩
 clear fL sX hbX fT sY hbY;clear X Y;rintro _ X ⟨fM,fT,fL,sX,hbX⟩;obtain⟨P0,hP0⟩:∃ P0:RelD×(Nat->UInt8),P0=(⟨x.ev.length,fun _=>0⟩,fun _=>0):=⟨_,rfl⟩;have hco:zcj x locs=match zkE x locs 0 P0 with
  | none=>false
  | some p=>zaO p.1 x.co&&(List.range 6).all fun l=>decide (p.2 l=x.mem l):=by rw [hP0];rfl
 refine⟨RelD×(Nat->UInt8),fun P=>⟨[(2,At0 L),(5,At0 (L+1)),(6,At0 (L+2))],[]⟩,fun P Z=>zkE x locs 0 P0=some P/\zqv Z (L+2) P.2/\zG Z (L+1) P.1/\Z.heap[L]?=some (.cells #[At0 b] 86 (0,0))/\Bw w Z,?_,?_⟩
 ·refine⟨Nat×(RelD×(Nat->UInt8)),fun s=>⟨[(2,At0 L),(5,At0 (L+1)),(6,At0 (L+2)),(17,i64 locs),(18,i64 (s.1:Nat))],[]⟩,fun s Z=>s.1<=locs/\zkE x (locs-s.1) s.1 s.2=zkE x locs 0 P0/\zE s.2.1.to/\zqv Z (L+2) s.2.2/\zG Z (L+1) s.2.1/\Z.heap[L]?=some (.cells #[At0 b] 86 (0,0))/\Bw w Z/\L+3<=Z.heap.size,fun s=>locs-s.1,(0,P0),
   (cvE rfl rfl),⟨Gj _,rfl,by rw [hP0];exact fun i _=>(by show 0<_;decide),by rw [hP0];exact fM,by rw [hP0];exact fT,fL,hbX,by omega⟩,?_⟩
  clear fM fT fL sX hbX;rintro⟨l,P⟩ Z ⟨hl,hgo,hPw,fM,fT,fL,hbZ,sZ⟩;dsimp only at hl hgo hPw fM fT sZ ⊢;refine biE (fun hc=>?_) fun hc=>?_
  ·have hc:(l:Int)<(locs:Int):=dT hc;have hll:l<locs:=by omega
   have hstep:zkE x (locs-l) l P=if (qs x l).headD 48=l then zkE x (locs-(l+1)) (l+1) (zbd (qs x l) P.1,upd P.2 l (zg4 x.ev (qs x l))) else none:=by
    rw [show locs-l=(locs-(l+1))+1 by omega];rfl
   refine⟨_,zc (za fL) (i:=0) rfl,_,zc (za (zb hbZ fx)) (i:=0) rfl,?_⟩;obtain⟨pr,hpr⟩:∃ pr:Nat->Bool,pr=fun i=>decide ((evA x i).k=2)&&decide ((evA x i).l.toNat=l):=⟨_,rfl⟩;refine⟨Nat×OA×Nat,fun s=>⟨[(2,At0 L),(5,At0 (L+1)),(6,At0 (L+2)),(7,i64 (l:Nat)),(8,.slice s.2.1 ((List.range s.1).filter pr).length s.2.2),(17,i64 locs),(18,i64 (l:Nat)),(24,.slice q x.ev.length c),(25,i64 x.ev.length),(26,i64 (s.1:Nat))],[]⟩,fun s V=>s.1<=x.ev.length/\OwnS zC 3 Z.heap.size V s.2.1 s.2.2 ((List.range s.1).filter pr)/\Bw Z V,fun s=>x.ev.length-s.1,(0,none,0),
    (cvE rfl rfl),⟨Gj _,OwnS.nil,Gm _ _⟩,?_⟩
   rintro⟨k,ps,cs⟩ V ⟨hk,oV,hbV⟩;dsimp only at hk oV ⊢;have hVs:=hbV.size;refine biE (fun hc=>?_) fun hc=>?_
   ·have hc:(k:Int)<(x.ev.length:Int):=dT hc;have hkl:k<x.ev.length:=(by omega);have hbwV:=zst hbZ hbV;obtain⟨bq,oq,hqe,hb,hat⟩:=zbW (hv.ev.below hbwV) hkl;rw [zen] at hat;have hfl:(List.range (k+1)).filter pr=(List.range k).filter pr++if pr k=true then [k] else []:=by
     rw [Ua,Kw,Qp,List.filter_nil]
    have hprk:pr k=(decide ((evA x k).k=2)&&decide ((evA x k).l.toNat=l)):=(by rw [hpr]);have hll2:((List.range k).filter pr).length<=k:=by
     have:=JL pr (List.range k);rw [KX] at this;exact this
    obtain⟨e,he⟩:=nm (evA x k);rw [<- he] at hat hprk;have eq0:some (Value.slice q x.ev.length c)=some (Value.slice (some ⟨bq,oq,none⟩) x.ev.length c):=(by rw [hqe]);subst hqe;refine⟨k,rfl,hkl,evE.enc e,rfl,hat,hb,zl (X:=V) (v := .agg (evE.enc e).toArray) zdU rfl rfl (Ql.2 fun u hu=>evE.one e u hu) fun U hbU fU sU=>?_⟩;have fU:U.heap[V.heap.size]?=some (.cells (evE.enc e).toArray 158 (0,0)):=fU;have oU:=oV.below hbU;have hbU2:=hbV.trans (hbU.mono hVs);have hUs:=hbU2.size;have skip:pr k=false->(k+1<=x.ev.length/\OwnS zC 3 Z.heap.size U ps cs ((List.range (k+1)).filter pr)/\Bw Z U):=fun h=>⟨hkl,by rw [hfl,h];simpa using oU,hbU2⟩;have zdh:pr k=false->((List.range (k+1)).filter pr).length=((List.range k).filter pr).length:=fun h=>by rw [hfl,h];simp
    refine⟨u8 e.k,zc (za fU) (i:=1) rfl,biE (fun h1=>?_) fun h1=>?_⟩
    ·have h1:e.k=2:=jc.1 (dT h1);refine⟨u8 e.l,zc (za fU) (i:=2) rfl,(e.l.toNat:Int),qH _,biE (fun h2=>?_) fun h2=>?_⟩
     ·have h2:(e.l.toNat:Int)=(l:Int):=dT h2;have hp1:pr k=true:=(by rw [hprk,Ux h1,Ux (by omega:e.l.toNat=l)];rfl);rw [GC hp1] at hfl;refine⟨⟨by decide,by decide,rfl⟩,zC.enc k,rfl,?_⟩;have hb2:Bw U (U.alloc (.cells (zC.enc k).toArray 3)):=zba _ _;have sb2:=hb2.size;unfold zeb zas;show SatR _ _;refine zqm (oU.below hb2) (qt zC k) (by omega) (by omega) fun p' c' S oS gS hat2=>?_;rw [zaz] at gS;rw [<- hfl] at oS ⊢;exact nxI (by omega) ⟨(k+1,p',c'),(cvE rfl rfl),⟨hkl,oS,hbU2.trans ((hb2.mono hUs).trans (jg (oU.below hb2) (by omega) (Gh _) gS))⟩,zdc (by omega)⟩
     ·have h2:¬ (e.l.toNat:Int)=(l:Int):=dF h2;have hp0:pr k=false:=(by rw [hprk,Ul (by omega:¬ e.l.toNat=l),Um]);exact nxI (by omega) ⟨(k+1,ps,cs),⟨.cons rfl (.cons rfl (.cons rfl (.cons rfl (.cons (by show _=some (Value.slice ps ((List.range (k+1)).filter pr).length cs);rw [zdh hp0];rfl) (.cons rfl (.cons rfl (.cons rfl (.cons rfl (.cons rfl .nil))))))))),rfl⟩,skip hp0,zdc (by omega)⟩
    ·have h1:¬ e.k=2:=fun e2=>(dF h1) (by rw [e2];rfl);have hp0:pr k=false:=(by rw [hprk,Ul h1];rfl);exact brF (nxI (by omega) ⟨(k+1,ps,cs),⟨.cons rfl (.cons rfl (.cons rfl (.cons rfl (.cons (by show _=some (Value.slice ps ((List.range (k+1)).filter pr).length cs);rw [zdh hp0];rfl) (.cons rfl (.cons rfl (.cons rfl (.cons rfl (.cons rfl .nil))))))))),rfl⟩,skip hp0,zdc (by omega)⟩)
   have hc:¬ (k:Int)<(x.ev.length:Int):=dF hc;obtain rfl:k=x.ev.length:=by omega
   have hwr:(List.range x.ev.length).filter pr=zdg x l:=by rw [hpr];rfl
   rw [hwr] at oV ⊢;have hwn:=hne l hll;have hw1:1<=(zdg x l).length:=List.length_pos_iff.2 hwn;have hw19:(zdg x l).length<=20:=by
    have:=JL pr (List.range x.ev.length);rw [hwr,KX] at this;omega
   have hps:∃ g,ps=some ⟨g,0,none⟩:=by
    rcases oV.inv with ⟨_,_,h⟩ | ⟨g,cur,h,_⟩
    ·exact (hwn h).elim
    ·exact⟨g,h⟩
   obtain⟨g,rfl⟩:=hps;have hg:=(zy oV rfl).1;have hg:Z.heap.size<=g:=hg;have hbwV:=zst hbZ hbV;have hZw:=hbZ.size;refine cmo (zhL oV (zb hbwV fx) (zb hbV fL) (hT.below hbwV) (by omega) hv.co (fun a ha=>by have:=zol ha;omega) hw19 hw1) ?_;rintro e U ⟨rfl,oU,gU⟩;have oU:OwnS zC 3 Z.heap.size U (some ⟨g,0,none⟩) cs (qs x l):=oU;have hrl:(qs x l).length=(zdg x l).length:=znb _;have hbU:Bw Z U:=hbV.trans (zo gU hVs hg);have hbwU:=hbZ.trans (hbU.mono hZw);have hU0:0<(qs x l).length:=by omega
   obtain⟨bq,oq,hqe,hbq,hatq⟩:=oU.row.at hU0;have hbo:bq=g/\oq=0:=by simpa using hqe.symm
   obtain⟨rfl,rfl⟩:=hbo;rw [<- hrl];have hh:(qs x l).headD 48=(qs x l)[0]:=znS hU0;refine⟨0,rfl,hU0,i64 (qs x l)[0],by have:=zc (hatq 0 hU0) (i:=0) (v:=i64 (qs x l)[0]) rfl;exact this,biE (fun h=>?_) fun h=>?_⟩
   ·have h:(!decide (((qs x l)[0]:Int)=(l:Int)))=true:=h;have h:¬ ((qs x l)[0]:Int)=(l:Int):=(by simpa using h);rw [hstep,GB (by rw [hh];omega)] at hgo;refine⟨rb ?_,hbwU⟩;rw [hco,<- hgo]
   have h:(!decide (((qs x l)[0]:Int)=(l:Int)))=false:=h;have h:((qs x l)[0]:Int)=(l:Int):=by simpa using h
   rw [hstep,GC (by rw [hh];omega)] at hgo;have fTU:=zb hbU fT;have hRT:RelAt U (L+1) 0 30 [] [] P.1:=⟨rfl,by simpa using fTU⟩;have hrk48:∀ a∈qs x l,a<48:=fun a ha=>by have:=zmi ha;omega
   have hLZ:=hlt fT;have hL2Z:=hlt fM;refine cmo (zpu hRT hPw oU.row (fun a ha=>by cases ha;exact⟨hbq,by show bq≠L+1;omega⟩) (by omega) hrk48) ?_;rintro e S ⟨rfl,hRS,gS⟩;have fTS:zG S (L+1) (zbd (qs x l) P.1):=by simpa using hRS.cells
   have hbS:Bw w S:=hbwU.trans (zo gS hbwU.size (by omega));have fMS:=(gS.block (L+2) (hlt (zb hbU fM)) (by simp)).trans (zb hbU fM);have fLS:=(gS.block L (hlt (zb hbU fL)) (by simp)).trans (zb hbU fL);have oS:=qj oU fTU (by decide) gS;obtain⟨j,hj⟩:∃ j,j+1=(qs x l).length:=⟨(qs x l).length-1,by omega⟩;have hjl:j<(qs x l).length:=by omega
   obtain⟨b6,o6,hp6,hl6,hat6⟩:=oS.row.at hjl;have hbo6:b6=bq/\o6=0:=by simpa using hp6.symm
   obtain⟨rfl,rfl⟩:=hbo6;obtain⟨t,ht⟩:∃ t,(qs x l)[j]=t:=⟨_,rfl⟩;have htev:t<x.ev.length:=zmi (by rw [<- ht];exact gM hjl);have hlast:(qs x l).getLastD 0=t:=by
    rw [List.getLastD_eq_getLast?,List.getLast?_eq_getElem?,show (qs x l).length-1=j by omega,gE hjl,ht];rfl
   obtain⟨b7,o7,hp7,hl7,hat7⟩:=zbW (hv.ev.below hbS) htev;rw [zen] at hat7;have hlV:zg4 x.ev (qs x l)=(evA x t).v:=by
    show (x.ev.getD ((qs x l).getLastD 0) ev0).v=_;rw [hlast];rfl
   have dS:Bw S S.drew:=(Gm _ _).drew;refine DrawE.ord [15] [0,1,2,3,4,5,6,7,8,9,10,11,12,13,14,15] (by kernel_rfl) ⟨_,zc (za (hdr fLS)) (i:=0) rfl,_,zc (za (hdr (zb hbS fx))) (i:=0) rfl,(j:Nat),(zi (by omega)).trans (by omega),j,rfl,hjl,i64 t,by have:=zc (zz dS (hat6 j hjl)) (i:=0) (v:=i64 t) (by rw [ht];rfl);exact this,?_⟩;rw [hp7];refine⟨t,rfl,htev,u8 (evA x t).v,by have:=zc (zz dS hat7) (i:=3) (v:=u8 (evA x t).v) rfl;exact this,l,rfl,by omega,?_⟩;refine zw k5 (hdr fMS) (o:=0+l*1) (v:=u8 (evA x t).v) rfl rfl (by rw [zK];omega) rfl fun T fT2 gT sT=>?_;have gT2:S.grownBy T (some (L+2)):=zg (zh dS) gT;have e8:=zmd (n:=6) (fun i=>u8 (P.2 i)) (fun i=>u8 (upd P.2 l (evA x t).v i)) (i:=l) (by omega) rfl (fun j hj=>by rw [zaK _ _ hj]);rw [jd] at e8;rw [Gi,Gb,e8] at fT2;exact nxI (by omega) ⟨(l+1,(zbd (qs x l) P.1,upd P.2 l (evA x t).v)),(cvE rfl rfl),⟨hll,by rw [<- hlV];exact hgo,zij hPw hrk48,fT2,(gT2.block (L+1) (hlt fTS) (by simp)).trans fTS,(gT2.block L (hlt fLS) (by simp)).trans fLS,hbS.trans (zo gT2 hbS.size (by omega)),by have:=gT2.size;have:=gS.size;have:=hbU.size;omega⟩,zdc (by omega)⟩
  ·have hc:¬ (l:Int)<(locs:Int):=dF hc;obtain rfl:l=locs:=by omega
   rw [UZ] at hgo;exact⟨P,(cvE rfl rfl),hgo.symm,fM,fT,fL,hbZ⟩
 rintro P Z ⟨hgo,fM,fT,fL,hbZ⟩;have hco2:zcj x locs=(zaO P.1 x.co&&(List.range 6).all fun l=>decide (P.2 l=x.mem l)):=by rw [hco,hgo]
 refine DrawE.ord [] [0,1,2,3,4,5,6,7,8,9,10,11,12,13,14,15] (by kernel_rfl) ?_;have dZ:Bw Z Z.drew:=(Gm _ _).drew;refine⟨zf P.1,zd _,za (hdr fT),hlt (hdr fT),_,zc (za (hdr fL)) (i:=0) rfl,?_⟩;have fxZ:=hdr (zb hbZ fx);refine⟨zf x.co,zd _,by have h:=zN (n:=99) (m:=49) (za fxZ);rw [show (exC x q c).toArray.toList=exC x q c from rfl,ztw] at h;exact h,hlt fxZ,_,fun w=>zja _ _ P.1 x.co w,?_⟩;have fin:Bw w Z.drew:=zst hbZ dZ;refine biE (fun h=>?_) fun h=>?_
 ·have h:zaO P.1 x.co=true:=h;exact⟨seg 6 (fun i=>u8 (P.2 i)),zK _ _,za (hdr fM),hlt (hdr fM),_,zc (za (hdr fL)) (i:=0) rfl,seg 6 (fun i=>u8 (x.mem i)),zK _ _,by have h:=zN (n:=327) (m:=6) (za fxZ);rw [show (exC x q c).toArray.toList=exC x q c from rfl,zrJ] at h;exact h,hlt fxZ,_,fun w=>zp1 _ _ P.2 x.mem w,rb (by rw [hco2,h,UD]),fin⟩
 ·have h:zaO P.1 x.co=false:=h;exact⟨rb (by rw [hco2,h,Un]),fin⟩
end
section
variable {b c:Nat} {x:ExD} {q:OA} {w:Wd}
theorem ziN {X:Wd} {o:Nat} {A T:List Value} {r:RelD} (fx:ExH X b x q c) (hA:A.length=o) (hE:exC x q c=A++(zf r++T)) {i:Nat} (hi:i<48):X.cell? ⟨b,o+1+i*1,none⟩=some (s64 (r.to i)):=by
 have hR:RelAt X b o 37 A T r:=⟨hA,by rw [<- hE];exact fx⟩;exact hR.cell hi
theorem zs6 {X:Wd} (fx:ExH X b x q c) {i:Nat} (hi:i<48):X.cell? ⟨b,0+1+1+i*1,none⟩=some (s64 (x.po.to i)):=by
 obtain⟨A,T,hA,hE⟩:=zpT x q c [];exact ziN fx hA (by rw [<- hE,QO]) hi
theorem ztB {X:Wd} (fx:ExH X b x q c) {i:Nat} (hi:i<48):X.cell? ⟨b,0+148+1+i*1,none⟩=some (s64 (x.dt.to i)):=by
 obtain⟨A,T,hA,hE⟩:=zpV x q c [];exact ziN fx hA (by rw [<- hE,QO]) hi
theorem ztL {X:Wd} (fx:ExH X b x q c) {i:Nat} (hi:i<48):X.cell? ⟨b,0+197+1+i*1,none⟩=some (s64 (x.ct.to i)):=by
 obtain⟨A,T,hA,hE⟩:=zpW x q c [];exact ziN fx hA (by rw [<- hE,QO]) hi
theorem zsY {X:Wd} (fx:ExH X b x q c) {i:Nat} (hi:i<48):X.cell? ⟨b,0+246+1+i*1,none⟩=some (s64 (x.rm.to i)):=by
 obtain⟨A,T,hA,hE⟩:=zpS x q c [];exact ziN fx hA (by rw [<- hE,QO]) hi
theorem n64 {a b:Nat} (h:(!decide ((a:Int)=(b:Int)))=true):¬ a=b:=fun e=>by
 rw [e] at h;simp at h
theorem y64 {a b:Nat} (h:(!decide ((a:Int)=(b:Int)))=false):a=b:=by
 have h:(a:Int)=(b:Int):=by simpa using h
 exact UF h
theorem n8 {a d:UInt8} (h:(!decide ((a.toNat:Int)=(d.toNat:Int)))=true):¬ a=d:=fun e2=>by
 rw [e2] at h;simp at h
theorem y8 {a d:UInt8} (h:(!decide ((a.toNat:Int)=(d.toNat:Int)))=false):a=d:=jc.1 (by simpa using h)
def wrG (x:ExD) (k:Nat):Nat:=(List.range k).foldl (fun s i=>if (evA x i).k=2 then s|||2^i else s) 0
theorem zjq (x:ExD) (k:Nat):wrG x (k+1)=if (evA x k).k=2 then wrG x k|||2^k else wrG x k:=by
 unfold wrG;rw [Ua,KV];rfl
theorem ziF (x:ExD):∀ k,k<=64->wrG x k<2^64
 | 0,_=>by show 0<_;decide
 | k+1,h=>by
  rw [zjq]
  split
  ·exact Qa (ziF x k (by omega)) (zV (by omega))
  ·exact ziF x k (by omega)
theorem zlK (fx:ExH w b x q c) (hv:ExV w x q) (hrn:x.rm.n=x.ev.length) (hok:okR x.rm=true) (hT:Tz64M w) :
  CB 44 #[At0 b] w (.bool (zbi x)):=by
 refine zU 130 [At0 b] (.s .p (.s .p (.c .p .p))) Tryz.func44 ?_;have hn:=hv.n;obtain⟨W,hW⟩:=nm (zon x);have hWG:W=wrG x x.ev.length:=by rw [hW];rfl
 have hW64:W<2^64:=by rw [hWG];exact ziF x _ (by omega)
 refine⟨Unit,fun _=>⟨[(0,At0 b),(3,s64 W),(4,s64 0)],[]⟩,fun _ X=>Bw w X,?_,?_⟩
 ·refine⟨_,zc (za fx) (i:=0) rfl,?_⟩;refine⟨Nat,fun k=>⟨[(0,At0 b),(3,s64 (wrG x k)),(4,s64 0),(17,.slice q x.ev.length c),(18,i64 x.ev.length),(19,i64 (k:Nat))],[]⟩,fun k X=>k<=x.ev.length/\Bw w X,fun k=>x.ev.length-k,0,
   (cvE rfl rfl),⟨Gj _,Gm _ _⟩,?_⟩
  rintro k X ⟨hk,hbX⟩;dsimp only;refine biE (fun hc=>?_) fun hc=>?_
  ·have hc:(k:Int)<(x.ev.length:Int):=dT hc;have hkl:k<x.ev.length:=by omega
   obtain⟨bq,oq,hqe,hb,hat⟩:=zbW (hv.ev.below hbX) hkl;rw [zen] at hat;obtain⟨e,he⟩:=nm (evA x k);have hs:=zjq x k;rw [<- he] at hat hs;subst hqe;refine⟨k,rfl,hkl,evE.enc e,rfl,hat,hb,zl (X:=X) (v := .agg (evE.enc e).toArray) zdU rfl rfl (Ql.2 fun u hu=>evE.one e u hu) fun Y hbY fY sY=>?_⟩;have fY:Y.heap[X.heap.size]?=some (.cells (evE.enc e).toArray 158 (0,0)):=fY;have hbY2:=zst hbX hbY;refine⟨u8 e.k,zc (za fY) (i:=1) rfl,biE (fun h=>?_) fun h=>?_⟩
   ·have h:e.k=2:=jc.1 (dT h);rw [GC h] at hs;exact⟨by omega,((2^k:Nat):Int),jH (e:=k) (by omega),((wrG x k|||2^k:Nat):Int),jZ (ziF x k (by omega)) (zV (by omega)),nxI (by omega) ⟨k+1,⟨.cons rfl (.cons (by show _=some (s64 (wrG x (k+1)));rw [hs];rfl) (.cons rfl (.cons rfl (.cons rfl (.cons rfl .nil))))),rfl⟩,⟨hkl,hbY2⟩,zdc (by omega)⟩⟩
   ·have h:¬ e.k=2:=fun e2=>(dF h) (by rw [e2];rfl);rw [GB h] at hs;exact nxI (by omega) ⟨k+1,⟨.cons rfl (.cons (by show _=some (s64 (wrG x (k+1)));rw [hs];rfl) (.cons rfl (.cons rfl (.cons rfl (.cons rfl .nil))))),rfl⟩,⟨hkl,hbY2⟩,zdc (by omega)⟩
  ·have hc:¬ (k:Int)<(x.ev.length:Int):=dF hc;obtain rfl:k=x.ev.length:=by omega
   exact⟨(),⟨.cons rfl (.cons (by show _=some (s64 W);rw [hWG];rfl) (.cons rfl .nil)),rfl⟩,hbX⟩
 rintro _ X hbX;refine⟨_,zc (za (zb hbX fx)) (i:=0) rfl,?_⟩;have hdep:zbi x=zhp x W 0 x.ev 0:=by rw [hW];rfl
 refine⟨Nat×Nat,fun s=>⟨[(0,At0 b),(3,s64 W),(4,s64 s.2),(35,.slice q x.ev.length c),(36,i64 x.ev.length),(37,i64 (s.1:Nat))],[]⟩,fun s X=>s.1<=x.ev.length/\zhp x W s.1 (x.ev.drop s.1) s.2=zbi x/\s.2<2^64/\Bw w X,fun s=>x.ev.length-s.1,(0,0),
  (cvE rfl rfl),⟨Gj _,hdep.symm,by decide,hbX⟩,?_⟩
 clear hbX;rintro⟨k,h⟩ X ⟨hk,hgo,hh,hbX⟩;dsimp only at hk hgo hh ⊢;refine biE (fun hc=>?_) fun hc=>?_
 ·have hc:(k:Int)<(x.ev.length:Int):=dT hc;have hkl:k<x.ev.length:=by omega
  have hk48:k<48:=by omega
  obtain⟨bq,oq,hqe,hb,hat⟩:=zbW (hv.ev.below hbX) hkl;rw [zen] at hat;obtain⟨e,he⟩:=nm (evA x k);rw [<- he] at hat;have hdrp:x.ev.drop k=e::x.ev.drop (k+1):=by
   rw [<- JD hkl,he];unfold evA;rw [gDe,gE hkl];rfl
  rw [hdrp] at hgo;unfold zhp at hgo;obtain⟨d,hd⟩:=nm (x.dt.to k);obtain⟨t,ht⟩:=nm (x.ct.to k);obtain⟨r,hr⟩:=nm (x.rm.to k);obtain⟨po,hpo⟩:=nm (x.po.to k);dsimp only at hgo;rw [<- hd,<- ht,<- hr,<- hpo] at hgo;have d64:d<2^64:=by rw [hd];exact hv.dt k hk48
  have t64:t<2^64:=by rw [ht];exact hv.ct k hk48
  have r64:r<2^64:=by rw [hr];exact hv.rm k hk48
  have p64:po<2^64:=by rw [hpo];exact hv.po k hk48
  have dt64:=Qa d64 t64;have dtr64:=Qa dt64 r64;have dr64:=Qa d64 r64;subst hqe;refine⟨k,rfl,hkl,evE.enc e,rfl,hat,hb,zl (X:=X) (v := .agg (evE.enc e).toArray) zdU rfl rfl (Ql.2 fun u hu=>evE.one e u hu) fun Y hbY fY sY=>?_⟩;have fY:Y.heap[X.heap.size]?=some (.cells (evE.enc e).toArray 158 (0,0)):=fY;have hbY2:=zst hbX hbY;have dY:Bw Y Y.drew:=(Gm _ _).drew;have fxY:=hdr (zb hbY2 fx);have fYd:=hdr fY;have hbD:=zst hbY2 dY;have no:∀ {Z:Wd},Bw w Z->zbi x=false->(Ending.returned (.bool false)=Ending.returned (.bool (zbi x))/\Bw w Z):=fun {Z} hb h=>⟨rb h.symm,hb⟩;refine DrawE.ord [] [0,1,2,3,4,5,6,7,8,9,10,11,12,13,14,15,16,17,18,19,20,21,22,23] (by kernel_rfl) ⟨k,rfl,hk48,s64 d,by rw [hd];exact ztB fxY hk48,?_⟩;refine⟨k,rfl,hk48,s64 t,by rw [ht];exact ztL fxY hk48,?_⟩;refine⟨k,rfl,hk48,s64 r,by rw [hr];exact zsY fxY hk48,?_⟩;refine⟨_,jZ d64 t64,_,jZ dt64 r64,biE (fun h1=>?_) fun h1=>?_⟩
  ·have h1:d|||t|||r=0:=UF (dT h1);rw [GC h1] at hgo;exact nxI (by omega) ⟨(k+1,h),(cvE rfl rfl),⟨hkl,hgo,hh,hbD⟩,zdc (by omega)⟩
  have h1:¬ d|||t|||r=0:=fun e2=>(dF h1) (by rw [e2];rfl);rw [GB h1] at hgo;refine⟨u8 e.k,zc (za fYd) (i:=1) rfl,biE (fun h2=>?_) fun h2=>?_⟩
  ·have h2:¬ e.k=1:=n8 (d:=1) h2;rw [GB fun h=>h2 h.1] at hgo;exact brT (brT (no hbD hgo.symm))
  have h2:e.k=1:=y8 (d:=1) h2;refine⟨_,jZ d64 r64,_,zbI dr64 hW64,biE (fun h3=>?_) fun h3=>?_⟩
  ·have h3:¬ jA (d|||r) W=0:=n64 (b:=0) h3;rw [GB fun h=>h3 h.2.1] at hgo;exact brT (no hbD hgo.symm)
  have h3:jA (d|||r) W=0:=y64 (b:=0) h3;refine⟨_,jZ d64 t64,_,jZ dt64 r64,k,rfl,hk48,s64 po,by rw [hpo];exact zs6 fxY hk48,?_⟩;refine⟨_,zbI dtr64 p64,biE (fun h4=>?_) fun h4=>?_⟩
  ·have h4:¬ jA (d|||t|||r) po=0:=n64 (b:=0) h4;rw [GB fun h=>h4 h.2.2] at hgo;exact no hbD hgo.symm
  have h4:jA (d|||t|||r) po=0:=y64 (b:=0) h4;rw [GC ⟨h2,h3,h4⟩] at hgo;refine cmo (zaU r64 (hT.below hbD)) ?_;rintro e2 Z ⟨rfl,hbZ⟩;have hbZ2:=zst hbD hbZ;by_cases hr0:r=0
  ·have e1:(els r).isEmpty=true:=by rw [hr0];rfl
   rw [e1];rw [GC hr0] at hgo;exact brF (nxI (by omega) ⟨(k+1,h),(cvE rfl rfl),⟨hkl,hgo,hh,hbZ2⟩,zdc (by omega)⟩)
  rw [GB hr0] at hgo;obtain⟨hhd,hem⟩:=zbU hr0 r64;rw [hhd,hem];have hmem:=zmK hr0 r64;have hbit:r.testBit (ctz r)=true:=(zdL.1 hmem).2;have hvl:ctz r<x.ev.length:=by
   have:=(ziW hok hv.rm hk48 (by rw [<- hr];exact hbit)).1;rw [hrn] at this;omega
  obtain⟨v,hvd⟩:=nm (ctz r);rw [<- hvd] at hvl hgo ⊢;refine brT ?_;have fZ:=zb hbZ fYd;have dZ:Bw Z Z.drew:=(Gm _ _).drew;have hbZ3:=zst hbZ2 dZ;refine DrawE.ord [] [0,1,2,3,4,5,6,7,8,9,10,11,12,13,14,15,16,17,18,19,20,21,22,23] (by kernel_rfl) ⟨by omega,((2^v:Nat):Int),jH (e:=v) (by omega),biE (fun h5=>?_) fun h5=>?_⟩
  ·have h5:¬ r=2^v:=n64 h5;rw [GB fun h=>h5 h.1] at hgo;exact brT (brT (no hbZ3 hgo.symm))
  have h5:r=2^v:=y64 h5;refine⟨by omega,_,zgb (a:=h) (k:=v) (by omega),_,jI (a:=h/2^v) (b:=1) (KG (Nat.div_le_self _ _) hh) (by decide),?_⟩;rw [zjh]
  cases hb5:h.testBit v with
  | true =>
   rw [GB fun h=>(by rw [hb5] at h;cases h.2.1)] at hgo;exact brT (brT (no hbZ3 hgo.symm))
  | false =>
   refine brF ?_;obtain⟨bq2,oq2,hqe2,hb2,hat2⟩:=zbW (hv.ev.below hbZ3) hvl;rw [zen] at hat2;obtain⟨f,hf⟩:=nm (evA x v);rw [<- hf] at hat2 hgo;refine⟨_,zc (za (zb hbZ3 fx)) (i:=0) rfl,v,rfl,hvl,?_⟩;simp only [Qb,Uz,Gu] at hqe2;rw [<- hqe2.1,<- hqe2.2] at hat2;refine⟨u8 f.l,by have:=zc hat2 (i:=2) (v:=u8 f.l) rfl;exact this,u8 e.l,zc (za (hdr fZ)) (i:=2) rfl,biE (fun h6=>?_) fun h6=>?_⟩
   ·have h6:¬ f.l=e.l:=n8 h6;rw [GB fun h=>h6 h.2.2] at hgo;exact no hbZ3 hgo.symm
   have h6:f.l=e.l:=y8 h6;rw [GC ⟨h5,hb5,h6⟩] at hgo;exact⟨_,jZ hh r64,nxI (by omega) ⟨(k+1,h|||r),(cvE rfl rfl),⟨hkl,hgo,Qa hh r64,hbZ3⟩,zdc (by omega)⟩⟩
 ·have hc:¬ (k:Int)<(x.ev.length:Int):=dF hc;obtain rfl:k=x.ev.length:=by omega
  rw [Qo] at hgo;exact⟨rb hgo,hbX⟩
end
theorem zkw {locs:Nat}:∀ (ev:List Ev) (i:Nat) (t:Int) (n:Nat),zky locs i ev t n=true->∀ j,i+j<locs->j<ev.length->∃ v,ev.getD j ev0=⟨-1,2,UInt8.ofNat (i+j),v,0,0,0⟩
 | [],_,_,_,_,_,_,h=>by simp at h
 | e::ev,i,t,n,h,j,hj,hl=>by
  unfold zky at h;rw [GC (by omega:i<locs)] at h;by_cases he:e=⟨-1,2,UInt8.ofNat i,e.v,0,0,0⟩
  ·rw [GC he] at h
   cases j with
   | zero=>exact⟨e.v,by rw [UU];exact he⟩
   | succ j =>
    obtain⟨v,hv⟩:=zkw ev (i+1) t n h j (by omega) (by simpa using hl);exact⟨v,by rw [show i+(j+1)=i+1+j by omega];exact hv⟩
  ·rw [GB he] at h;cases h
theorem zpG (ev:List Ev):zaC ev<=ev.length:=by
 unfold zaC
 induction ev with
 | nil=>exact Gh _
 | cons e ev ih =>
  rw [Kn]
  split
  ·rw [Qu,Qu];omega
  ·exact Gj _
theorem zok {x:ExD} {locs:Nat} (h:jU x.ev locs=true) (hl:locs<=x.ev.length) (h6:locs<=6):∀ l,l<locs->zdg x l≠[]:=by
 intro l hll he;obtain⟨v,hv⟩:=zkw x.ev 0 0 0 h l (by omega) (by omega);have:l∈zdg x l:=by
  unfold zdg;rw [QX,Ut];refine⟨by omega,?_⟩;have h2:evA x l=⟨-1,2,UInt8.ofNat (0+l),v,0,0,0⟩:=hv;rw [h2,bAT,dE,dE];refine⟨rfl,?_⟩;show (UInt8.ofNat (0+l)).toNat=l;rw [Gb,KJ];exact QE (by omega)
 rw [he] at this
 cases this
abbrev zc6 (x:ExD):List RelD:=[x.po,x.rf,x.co,x.dt,x.ct,x.rm]
theorem zrI (x:ExD) (q:OA) (c:Nat) {i:Nat} (hi:i<6):((exC x q c).drop (1+49*i)).take 49=zf ((zc6 x).getD i x.po):=by
 have g:∀ {A T:List Value} {o:Nat} {r:RelD},A.length=o->exC x q c=A++(zf r++T)->((exC x q c).drop o).take 49=zf r:=fun {A T o r} hA hE=>by
  rw [hE,<- hA,Uq,Jg (by rw [zd];decide),JE (by rw [zd];decide)]
 match i,hi with
 | 0,_=>obtain⟨A,T,hA,hE⟩:=zpT x q c [];exact g hA (by rw [<- hE,QO];rfl)
 | 1,_=>obtain⟨A,T,hA,hE⟩:=zsA x q c [];exact g hA (by rw [<- hE,QO];rfl)
 | 2,_=>obtain⟨A,T,hA,hE⟩:=zsC x q c [];exact g hA (by rw [<- hE,QO];rfl)
 | 3,_=>obtain⟨A,T,hA,hE⟩:=zpV x q c [];exact g hA (by rw [<- hE,QO];rfl)
 | 4,_=>obtain⟨A,T,hA,hE⟩:=zpW x q c [];exact g hA (by rw [<- hE,QO];rfl)
 | 5,_=>obtain⟨A,T,hA,hE⟩:=zpS x q c [];exact g hA (by rw [<- hE,QO];rfl)
theorem zq5 (L:Nat) {k:Nat} (hk:k<6):((List.range 6).map (fun i=>Value.pointer (some ⟨L,0+(1+49*i),none⟩)))[k]?=some (.pointer (some ⟨L,0+(1+49*k),none⟩)):=by
 rw [KW,Kh hk];rfl
def okX (x:ExD) (r:RelD):Bool:=decide (r.n=x.ev.length)&&okR r
section
variable {c:Nat} {x:ExD} {q:OA} {w:Wd}
theorem zfn {X:Wd} {b:Nat} (fx:ExH X b x q c) {i:Nat} (hi:i<6):zq X ⟨b,0+(1+49*i),none⟩ (zf ((zc6 x).getD i x.po)):=by
 have h:=zN (n:=1+49*i) (m:=49) (za fx);rw [show (exC x q c).toArray.toList=exC x q c from rfl,zrI x q c hi] at h;exact h
theorem ExV.rel (hv:ExV w x q) {i:Nat} (hi:i<6):zE ((zc6 x).getD i x.po).to:=by
 match i,hi with
 | 0,_=>exact hv.po
 | 1,_=>exact hv.rf
 | 2,_=>exact hv.co
 | 3,_=>exact hv.dt
 | 4,_=>exact hv.ct
 | 5,_=>exact hv.rm
theorem zdD (hv:ExV w x q) (hT:Tz64M w):CB 10 #[.agg (exC x q c).toArray] w (.bool (zY x)):=by
 refine zU 70 [.agg (exC x q c).toArray] (.c .p (.c .p (.c .p (.c .p (.c .p .p))))) Tryz.func10 ?_;obtain⟨L,hL⟩:=nm (w.heap.size);have hn:=hv.n;refine⟨Unit,fun _=>⟨[(1,At0 L)],[]⟩,fun _ X=>ExH X L x q c/\Bw w X,⟨(),⟨.cons (by rw [hL];rfl) .nil,rfl⟩,by rw [hL];exact zt w _,(zba w _)⟩,?_⟩;rintro _ X ⟨fx,hbX⟩;obtain⟨n,hnn⟩:=nm (zaC x.ev);refine⟨Unit,fun _=>⟨[(1,At0 L)],[]⟩,fun _ Y=>X=Y,?_,?_⟩
 ·refine⟨_,zc (za fx) (i:=0) rfl,biE (fun h=>?_) fun _=>?_⟩
  ·have h:(48:Int)<(x.ev.length:Nat):=dT h;omega
  exact⟨(),(cvE rfl rfl),rfl⟩
 rintro _ _ rfl;refine⟨Unit,fun _=>⟨[(1,At0 L),(3,i64 (n:Nat))],[]⟩,fun _ Y=>Bw X Y,?_,?_⟩
 ·refine⟨_,zc (za fx) (i:=0) rfl,cmo (zlB (hv.below hbX).ev (by omega)) ?_⟩;rintro e Y ⟨rfl,hbY⟩;rw [<- hnn];exact⟨(),(cvE rfl rfl),hbY⟩
 rintro _ Y hbY;have hvX:=hv.below hbX;have hnl:n<=x.ev.length:=by rw [hnn];exact zpG _
 have hbwY:=zst hbX hbY;have hr0:decide (x.ev.length<=48)=true:=Ux (by omega);have no:∀ {Z:Wd},Bw w Z->zY x=false->(Ending.returned (.bool false)=Ending.returned (.bool (zY x))/\Bw w Z):=fun {Z} hb h=>⟨rb h.symm,hb⟩;refine⟨Unit,fun _=>⟨[(1,At0 L),(3,i64 (n:Nat))],[]⟩,fun _ Z=>jU x.ev n=true/\(1<=n/\n<=6)/\ExH Z L x q c/\Bw w Z,?_,?_⟩
 ·refine biE (fun h1=>?_) fun h1=>?_
  ·have h1:(n:Int)<1:=dT h1;refine brT (brT (no hbwY ?_));unfold zY;rw [<- hnn,Ul (by omega:¬ 1<=n),Un,Um]
  have h1:¬ (n:Int)<1:=dF h1;refine biE (fun h2=>?_) fun h2=>?_
  ·have h2:(6:Int)<(n:Int):=dT h2;refine brT (no hbwY ?_);unfold zY;rw [<- hnn,Ul (by omega:¬ n<=6),Un,Um,Um]
  have h2:¬ (6:Int)<(n:Int):=dF h2;have hn1:decide (1<=n)=true:=Ux (by omega);have hn6:decide (n<=6)=true:=Ux (by omega);have fY:=zb hbY fx;refine⟨_,zc (za fY) (i:=0) rfl,cmo (zhK (locs:=n) (hvX.below hbY).ev (by omega) (by omega)) ?_⟩;rintro e Z ⟨rfl,hbZ⟩;have hbwZ:=zst hbwY hbZ;refine biE (fun h3=>?_) fun h3=>?_
  ·have h3:jU x.ev n=false:=by
    have h3:(!jU x.ev n)=true:=h3;simpa using h3
   refine no hbwZ ?_;unfold zY;rw [<- hnn,h3,Un,Um,Um,Um]
  have h3:jU x.ev n=true:=by
   have h3:(!jU x.ev n)=false:=h3;simpa using h3
  exact⟨(),(cvE rfl rfl),h3,by omega,zb hbZ fY,hbwZ⟩
 rintro _ Z ⟨h3,⟨h1,h2⟩,fZ,hbwZ⟩;clear fx hbX hbY hbwY hvX;have hn1:decide (1<=n)=true:=Ux h1;have hn6:decide (n<=6)=true:=Ux h2;have hright:zY x=(zbA x&&(zaO x.po (poR x.ev)&&(zb8 x&&(zcj x n&&zbi x)))):=by
  unfold zY;rw [<- hnn,hr0,hn1,hn6,h3];rfl
 have hrels:zbA x=(zc6 x).all (okX x):=rfl;refine⟨Unit,fun _=>⟨[(1,At0 L),(3,i64 (n:Nat))],[]⟩,fun _ U=>zbA x=true/\ExH U L x q c/\Bw w U,?_,?_⟩
 ·refine⟨⟨by decide,by decide,rfl⟩,(List.range 6).map (fun i=>Value.pointer (some ⟨L,0+(1+49*i),none⟩)),rfl,?_⟩;obtain⟨g,hg⟩:=nm (Z.heap.size);refine⟨Nat,fun k=>⟨[(1,At0 L),(3,i64 (n:Nat)),(32,.slice (some ⟨g,0,none⟩) 6 6),(33,i64 6),(34,i64 (k:Nat))],[]⟩,fun k U=>k<=6/\((zc6 x).take k).all (okX x)=true/\U.heap[g]?=some (.cells ((List.range 6).map (fun i=>Value.pointer (some ⟨L,0+(1+49*i),none⟩))).toArray 82 (0,0))/\ExH U L x q c/\Bw w U,fun k=>6-k,0,
   ⟨.cons rfl (.cons rfl (.cons (by rw [hg];rfl) (.cons rfl (.cons rfl .nil)))),rfl⟩,⟨Gj _,rfl,by rw [hg];exact zt Z _,qe _ fZ,hbwZ.alloc hbwZ.size _⟩,?_⟩
  clear hg fZ hbwZ;rintro k U ⟨hk,hall,fg,fU,hbU⟩;dsimp only;refine biE (fun hc=>?_) fun hc=>?_
  ·have hc:(k:Int)<6:=dT hc;have hk6:k<6:=by omega
   obtain⟨r,hr⟩:=nm ((zc6 x).getD k x.po);have hkl:k<(zc6 x).length:=hk6;have htk:(zc6 x).take (k+1)=(zc6 x).take k++[r]:=by
    rw [tsg hkl,hr,gDe,gE hkl];rfl
   have hrw:zE r.to:=by rw [hr];exact hv.rel hk6
   have hcel:zq U ⟨L,0+(1+49*k),none⟩ (zf r):=by rw [hr];exact zfn fU hk6
   have dU:Bw U U.drew:=(Gm _ _).drew;have hrm:r∈zc6 x:=by
    rw [hr,gDe,gE hkl];exact gM hkl
   have bad:∀ {Z:Wd},Bw w Z->okX x r=false->(Ending.returned (.bool false)=Ending.returned (.bool (zY x))/\Bw w Z):=fun {Z} hb h=>no hb (by
    have:zbA x=false:=by
     rw [hrels,KO];exact⟨r,hrm,by rw [h];decide⟩
    rw [hright,this];rfl)
   refine⟨k,rfl,hk6,?_⟩;refine⟨.pointer (some ⟨L,0+(1+49*k),none⟩),by
    have:=zc (za fg) (i:=k*1) (v := .pointer (some ⟨L,0+(1+49*k),none⟩)) (by
     rw [Gi];exact zq5 L hk6)
    exact this,?_⟩
   refine DrawE.ord [] [0,1,2,3,4,5,6,7,8,9,10,11,12,13,14] (by kernel_rfl) ⟨i64 r.n,zc (zz dU hcel) (i:=0) rfl,_,zc (za (hdr fU)) (i:=0) rfl,biE (fun h4=>?_) fun h4=>?_⟩
   ·have h4:(!decide (r.n=(x.ev.length:Int)))=true:=h4;have h4:¬ r.n=(x.ev.length:Int):=(by simpa using h4);exact brT (bad ((zst hbU dU)) (by unfold okX;rw [Ul h4];rfl))
   have h4:(!decide (r.n=(x.ev.length:Int)))=false:=h4;have h4:r.n=(x.ev.length:Int):=by simpa using h4
   refine⟨zf r,zd _,zz dU hcel,hlt (hdr fU),cmo (qA hrw) ?_⟩;rintro e V ⟨rfl,hbV⟩;refine⟨hbV,?_⟩;have hbV2:=hbU.trans ((dU.trans hbV).mono hbU.size);refine biE (fun h5=>?_) fun h5=>?_
   ·have h5:okR r=false:=by
     have h5:(!okR r)=true:=h5;simpa using h5
    exact bad hbV2 (by unfold okX;rw [h5,Um])
   have h5:okR r=true:=by
    have h5:(!okR r)=false:=h5;simpa using h5
   refine nxI (by omega) ⟨k+1,(cvE rfl rfl),⟨hk6,?_,zb (dU.trans hbV) fg,zb (dU.trans hbV) fU,hbV2⟩,zdc (by omega)⟩;rw [htk,QN,hall];show (true&&(okX x r&&true))=true;unfold okX;rw [Ux h4,h5];rfl
  ·have hc:¬ (k:Int)<6:=dF hc;obtain rfl:k=6:=by omega
   exact⟨(),(cvE rfl rfl),hall,fU,hbU⟩
 rintro _ U ⟨hrr,fU,hbU⟩;rw [hrr,UD] at hright;have hall:∀ r∈zc6 x,r.n=x.ev.length/\okR r=true:=fun r hr=>by
  rw [hrels,Ql] at hrr;have:=hrr r hr;unfold okX at this;rw [bAT,dE] at this;exact this
 have hrf:=hall x.rf (by simp);have hrm:=hall x.rm (by simp);have hvU:=hv.below hbU;have dU:Bw U U.drew:=(Gm _ _).drew;have hvD:=hvU.below dU;have hbD:=zst hbU dU;refine DrawE.ord [] [0,1,2,3,4,5,6,7,8,9,10,11,12,13,14,15,16] (by kernel_rfl) ⟨zf x.po,zd _,zfn (hdr fU) (i:=0) (by decide),hlt (hdr fU),_,zc (za (hdr fU)) (i:=0) rfl,cmo (zdl hvD.ev (by omega)) ?_⟩;rintro e V ⟨rfl,hbV⟩;refine⟨hbV,?_⟩;have hbV2:=zst hbD hbV;have fV:=zb hbV (hdr fU);have hvV:=hvD.below hbV;refine⟨_,fun w=>zja _ _ x.po (poR x.ev) w,biE (fun h4=>?_) fun h4=>?_⟩
 ·have h4:zaO x.po (poR x.ev)=true:=h4;rw [h4,UD] at hright;refine cmo (zns fV hvV hrf.1 hrf.2 (hT.below hbV2)) ?_;rintro e T ⟨rfl,hbT⟩;refine⟨hbT,?_⟩;have hbT2:=zst hbV2 hbT;refine biE (fun h5=>?_) fun h5=>?_
  ·have h5:zb8 x=true:=h5;rw [h5,UD] at hright;refine cmo (zn4 (locs:=n) (zb hbT fV) (hvV.below hbT) (by omega) (zok h3 hnl (by omega)) (hT.below hbT2)) ?_;rintro e R ⟨rfl,hbR⟩;refine⟨hbR,?_⟩;have hbR2:=zst hbT2 hbR;refine biE (fun h6=>?_) fun h6=>?_
   ·have h6:zcj x n=true:=h6;rw [h6,UD] at hright;refine cmo (zlK (zb hbR (zb hbT fV)) ((hvV.below hbT).below hbR) hrm.1 hrm.2 (hT.below hbR2)) ?_;rintro e Q ⟨rfl,hbQ⟩;exact⟨hbQ,rb hright.symm,(zst hbR2 hbQ)⟩
   ·have h6:zcj x n=false:=h6;rw [h6,Un] at hright;exact⟨rb hright.symm,hbR2⟩
  ·have h5:zb8 x=false:=h5;rw [h5,Un] at hright;exact brF ⟨rb hright.symm,hbT2⟩
 ·have h4:zaO x.po (poR x.ev)=false:=h4;rw [h4,Un] at hright;exact brF (brF ⟨rb hright.symm,hbV2⟩)
end
theorem zfd {a b:RelD} {f:Nat->Nat} (h:a.n=b.n->okR a=true->okR b=true->∀ i,i<48->f i<2^64):zE (comb a b f).1.to:=by
 unfold comb
 split
 ·rename_i hc;rw [bAT,bAT,dE] at hc;exact zbF fun i _ hi=>h hc.1 hc.2.1 hc.2.2 i hi
 ·exact fun i _=>(by show 0<2^64;decide)
theorem zm4 {a b:RelD} (ha:zE a.to) (hb:zE b.to):zE (zX a b).1.to:=zfd fun _ _ _ i hi=>Qa (ha i hi) (hb i hi)
theorem zqf {a b:RelD} (ha:zE a.to):zE (zaT a b).1.to:=zfd fun _ _ _ i hi=>KG Uc (ha i hi)
theorem zjx {a b:RelD} (ha:zE a.to) (hb:zE b.to):zE (zbq a b).1.to:=zfd fun _ h _ i hi=>by
 unfold zaS;exact zhe hb _ _ (by decide) fun j hj=>(zgh h ha hi j hj).2
theorem znK {a b:RelD} (ha:zE a.to):zE (zaQ a b).1.to:=zfd fun _ _ _ i hi=>by
 rw [ze1];exact ze0 (ha i hi)
theorem zdH (k:Nat) (p:Nat->Bool):zf6 (k+1) p=if p k=true then zf6 k p|||2^k else zf6 k p:=by
 unfold zf6;rw [Ua,KV];rfl
theorem zeF (p:Nat->Bool):∀ k,k<=64->zf6 k p<2^64
 | 0,_=>by show 0<_;decide
 | k+1,h=>by
  rw [zdH]
  split
  ·exact Qa (zeF p k (by omega)) (zV (by omega))
  ·exact zeF p k (by omega)
theorem zeM {n:Nat} {p:Nat->Nat->Bool} (hn:n<=64):zE (zbr n p).to:=zbF fun i _ _=>zeF _ n hn
def jz (n:Nat) (p:Nat->Nat->Bool) (a k:Nat):Nat->Nat:=fun i=>if i<a then zf6 n (p i) else if i=a then zf6 k (p a) else 0
theorem zjL (n:Nat) (p:Nat->Nat->Bool) (a k:Nat):jz n p a k a=zf6 k (p a):=by
 unfold jz;rw [GB (by omega),GC rfl]
theorem znq {n:Nat} {p:Nat->Nat->Bool} {a k:Nat} (h:p a k=true):upd (jz n p a k) a (jz n p a k a|||2^k)=jz n p a (k+1):=by
 funext i;by_cases hi:i=a
 ·subst hi;rw [jd,zjL,zjL,zdH,GC h]
 ·rw [zaK _ _ hi];unfold jz;rw [GB hi,GB hi]
theorem zlh {n:Nat} {p:Nat->Nat->Bool} {a k:Nat} (h:p a k=false):jz n p a k=jz n p a (k+1):=by
 have e:zf6 (k+1) (p a)=zf6 k (p a):=by rw [zdH,GB (by rw [h];decide)]
 funext i;unfold jz;rw [e]
theorem zli (n:Nat) (p:Nat->Nat->Bool) (a:Nat):jz n p a n=jz n p (a+1) 0:=by
 funext i;unfold jz;by_cases h1:i<a
 ·rw [GC h1,GC (by omega)]
 ·by_cases h2:i=a
  ·subst h2;rw [GB h1,GC rfl,GC (by omega)]
  ·rw [GB h1,GB h2,GB (by omega)]
   split
   ·rfl
   ·rfl
theorem zlg (n:Nat) (p:Nat->Nat->Bool):jz n p 0 0=fun _=>0:=by
 funext i;unfold jz;rw [GB (by omega)]
 split <;> rfl
theorem znr (n:Nat) (p:Nat->Nat->Bool):jz n p n 0=(zbr n p).to:=by
 funext i;unfold jz zbr ji;show _=if i<n then _ else 0
 by_cases h:i<n
 ·rw [GC h,GC h]
 ·rw [GB h,GB h]
  split <;> rfl
theorem znp {n:Nat} {p:Nat->Nat->Bool} {a k:Nat} (hn:n<=64) (hk:k<=64):zE (jz n p a k):=fun i _=>by
 unfold jz
 split
 ·exact zeF _ n hn
 ·split
  ·exact zeF _ k hk
  ·decide
theorem zr6 {s b:Nat}:decide ((((s/2^b&&&1:Nat):Nat):Int)=1)=s.testBit b:=by
 rw [zjh]
 cases s.testBit b <;> rfl
section
variable {w:Wd}
theorem zim {b o a d:Nat} {r:RelD} (hc:∀ i,i<48->w.cell? ⟨b,o+1+i*1,none⟩=some (s64 (r.to i))) (hr:zE r.to) (ha:a<48) (hd:d<48) :
  Calls PG 117 #[.pointer (some ⟨b,o,none⟩),i64 (a:Nat),i64 (d:Nat)] w fun e w'=>e = .returned (.bool (qN r a d))/\w=w':=by
 refine zI 17 [.pointer (some ⟨b,o,none⟩),i64 (a:Nat),i64 (d:Nat)] Tryz.func117 ?_;exact⟨a,rfl,ha,_,hc a ha,by omega,_,zgb (a:=r.to a) (k:=d) (by omega),_,jI (a:=r.to a/2^d) (b:=1) (KG (Nat.div_le_self _ _) (hr a ha)) (by decide),rb zr6,rfl⟩
theorem zkT {e:Ev}:Calls PG 166 #[.agg (evE.enc e).toArray] w fun r w'=>r = .returned (.bool (decide (e.k=1)||decide (e.k=2)))/\Bw w w':=by
 refine zI 11 [.agg (evE.enc e).toArray] Tryz.func166 ?_;have f:=zt w (.cells (evE.enc e).toArray 158);have hb:Bw w (w.alloc (.cells (evE.enc e).toArray 158)):=zba w _;refine⟨u8 e.k,zc (za f) (i:=1) rfl,biE (fun h=>?_) fun h=>?_⟩
 ·have h:e.k=1:=jc.1 (dT h);exact⟨rb (by rw [Ux h];rfl),hb⟩
 ·have h:¬ e.k=1:=fun e2=>(dF h) (by rw [e2];rfl);refine⟨u8 e.k,zc (za f) (i:=1) rfl,rb ?_,hb⟩;rw [Ul h,UA];exact QJ.2 (jc (x:=e.k) (y:=2))
theorem zln {n g:Nat} {caps:Array Value} {p:Nat->Nat->Bool} (hn:n<=48) (hok:jV (sg 0) g=true)
  (hp:∀ a d X,a<n->d<n->Bw w X->Calls PG g (i64 (a:Nat)::i64 (d:Nat)::caps.toList).toArray X fun e Y=>e = .returned (.bool (p a d))/\Bw X Y) :
  CB 115 #[i64 n,.func (.func g) #[] caps] w (.agg (zf (zbr n p)).toArray):=by
 refine zU 34 [i64 n,.func (.func g) #[] caps] (.c .p (.c .p (.c .p .p))) Tryz.func115 ?_;obtain⟨L,hL⟩:=nm (w.heap.size);refine⟨Unit,fun _=>⟨[(0,i64 n),(1,.func (.func g) #[] caps),(4,At0 L)],[]⟩,fun _ X=>zG X L zn/\X.heap.size=L+1/\Bw w X,?_,?_⟩
 ·exact⟨(),⟨.cons rfl (.cons rfl (.cons (by rw [hL];rfl) .nil)),rfl⟩,by rw [hL];exact zt w _,by rw [hL];exact wz _ _,(zba w _)⟩
 rintro _ X ⟨f0,sX,hbX⟩;refine⟨Unit,fun _=>⟨[(0,i64 n),(1,.func (.func g) #[] caps),(4,At0 L),(5,At0 (L+1))],[]⟩,fun _ Y=>zG Y (L+1) ⟨n,jz n p 0 0⟩/\Y.heap.size=L+2/\Bw X Y,?_,?_⟩
 ·refine⟨zf ⟨n,fun _=>0⟩,by kernel_rfl,?_⟩;refine zl (X:=X) (v := .agg (zf ⟨n,fun _=>0⟩).toArray) k30 (zd _) (by kernel_rfl) (zB _) fun Z hbZ fZ sZ=>?_;rw [sX] at fZ sZ;exact⟨(),⟨.cons rfl (.cons rfl (.cons rfl (.cons (by rw [<- sX];rfl) .nil))),rfl⟩,by rw [zlg];exact fZ,sZ,hbZ⟩
 rintro _ Y ⟨f1,sY,hbY⟩;have hbwY:=zst hbX hbY;have f0:=zb hbY f0;refine⟨Unit,fun _=>⟨[(4,At0 L),(5,At0 (L+1))],[]⟩,fun _ Z=>zG Z (L+1) (zbr n p)/\zG Z L zn/\Bw w Z,?_,?_⟩
 ·refine⟨Nat,fun a=>⟨[(0,i64 n),(1,.func (.func g) #[] caps),(4,At0 L),(5,At0 (L+1)),(10,i64 n),(11,i64 (a:Nat))],[]⟩,fun a Z=>a<=n/\zG Z (L+1) ⟨n,jz n p a 0⟩/\zG Z L zn/\Bw w Z,fun a=>n-a,0,
   (cvE rfl rfl),⟨Gj _,f1,f0,hbwY⟩,?_⟩
  rintro a Z ⟨ha,f1,f0,hbZ⟩;dsimp only at f1 ⊢;refine biE (fun hc=>?_) fun hc=>?_
  ·have hc:(a:Int)<(n:Int):=dT hc;have han:a<n:=by omega
   refine⟨Nat,fun d=>⟨[(0,i64 n),(1,.func (.func g) #[] caps),(4,At0 L),(5,At0 (L+1)),(6,i64 (a:Nat)),(10,i64 n),(11,i64 (a:Nat)),(14,i64 n),(15,i64 (d:Nat))],[]⟩,fun d V=>d<=n/\zG V (L+1) ⟨n,jz n p a d⟩/\zG V L zn/\Bw w V,fun d=>n-d,0,
    (cvE rfl rfl),⟨Gj _,f1,f0,hbZ⟩,?_⟩
   clear f1 f0 hbZ;rintro d V ⟨hd,f1,f0,hbV⟩;dsimp only at f1 ⊢;refine biE (fun hc=>?_) fun hc=>?_
   ·have hc:(d:Int)<(n:Int):=dT hc;have hdn:d<n:=(by omega);refine zkN hok (hp a d V han hdn hbV) ?_;rintro e U ⟨rfl,hbU⟩;refine⟨_,rfl,?_⟩;have f1:=zb hbU f1;have f0:=zb hbU f0;have hbU2:=zst hbV hbU;have sU:=hbU2.size;refine biE (fun h=>?_) fun h=>?_
    ·have h:p a d=true:=h;have hR:RelAt U (L+1) 0 30 [] [] ⟨n,jz n p a d⟩:=⟨rfl,by simpa using f1⟩;have dU:Bw U U.drew:=(Gm _ _).drew;have ha48:a<48:=(by omega);refine DrawE.ord [9] [0,1,2,3,4,5,6,7,8,9] (by kernel_rfl) ⟨a,rfl,ha48,s64 (jz n p a d a),(hR.same (Y:=U.drew) rfl).cell ha48,by omega,_,jH (e:=d) (by omega),_,jZ (znp (by omega) (by omega) a ha48) (zV (by omega)),a,rfl,ha48,zw k27 (hR.same (Y:=U.drew) rfl).cells (o:=0+1+a*1) (v:=s64 (jz n p a d a|||2^d)) rfl rfl (by rw [hR.len];omega) rfl fun S fS gS sS=>?_⟩;rw [hR.set ha48] at fS;have e5:upd (jz n p a d) a (jz n p a d a|||2^d)=jz n p a (d+1):=znq h;dsimp only at fS;rw [e5] at fS;have gS2:U.grownBy S (some (L+1)):=zg (zh dU) gS;exact nxI (by omega) ⟨d+1,(cvE rfl rfl),⟨hdn,by simpa using fS,(gS2.block L (hlt f0) (by simp)).trans f0,hbU2.trans (zo gS2 sU (by omega))⟩,zdc (by omega)⟩
    ·have h:p a d=false:=h;exact nxI (by omega) ⟨d+1,(cvE rfl rfl),⟨hdn,by rw [<- zlh h];exact f1,f0,hbU2⟩,zdc (by omega)⟩
   ·have hc:¬ (d:Int)<(n:Int):=dF hc;obtain rfl:d=n:=(by omega);exact nxI (by omega) ⟨a+1,(cvE rfl rfl),⟨han,by rw [<- zli];exact f1,f0,hbV⟩,zdc (by omega)⟩
  ·have hc:¬ (a:Int)<(n:Int):=dF hc;obtain rfl:a=n:=by omega
   rw [znr] at f1;exact⟨(),(cvE rfl rfl),f1,f0,hbZ⟩
 rintro _ Z ⟨f1,f0,hbZ⟩;exact⟨zf (zbr n p),zd _,za f1,hlt f1,zr (v := .agg (zf (zbr n p)).toArray) k30 f0 (zd _) (zd _) (zB _) ⟨zf (zbr n p),zd _,za (zm f0),rfl,zk hbZ (by omega) _⟩⟩
end
section
variable {w:Wd} {b c:Nat} {x:ExD} {q:OA}
theorem j4 {X:Wd} (fx:zq X ⟨b,0,none⟩ (exC x q c)):X.cell? ⟨b,0+0,none⟩=some (.slice q x.ev.length c):=zc fx (i:=0) rfl
theorem zqq (x:ExD) (i:Nat):(decide ((evA x i).k=1)||decide ((evA x i).k=2))=zlY x i:=rfl
theorem zfG {X:Wd} (hv:SlR evE X q x.ev) {a:Nat} (ha:a<x.ev.length):∃ bq oq,q=some ⟨bq,oq,none⟩/\bq<X.heap.size/\zq X ⟨bq,oq+a*7,none⟩ (evE.enc (evA x a)):=zbW hv ha
theorem zsX {a d:Nat} (fx:zq w ⟨b,0,none⟩ (exC x q c)) (hv:SlR evE w q x.ev) (ha:a<x.ev.length) (hd:d<x.ev.length) :
  CB 118 #[At0 b,i64 (a:Nat),i64 (d:Nat)] w (.bool (zgB x a d)):=by
 refine zU 44 [At0 b,i64 (a:Nat),i64 (d:Nat)] (.c .p .p) Tryz.func118 ?_;refine⟨Unit,fun _=>⟨[(0,At0 b),(1,i64 (a:Nat)),(2,i64 (d:Nat))],[]⟩,fun _ X=>w=X,⟨(),(cvE rfl rfl),rfl⟩,?_⟩;rintro _ _ rfl;obtain⟨bq,oq,hqe,hb,hat⟩:=zfG hv ha;obtain⟨bq2,oq2,hqe2,hb2,hat2⟩:=zfG hv hd;rw [hqe] at hqe2;simp only [Qb,Uz,Gu] at hqe2;rw [<- hqe2.1,<- hqe2.2] at hat2;subst hqe;have dw:Bw w w.drew:=(Gm _ _).drew;refine DrawE.ord [] [0,1,2,3,4,5,6,7,8,9,10,11,12,13,14,15,16,17,18,19,20,21,22,23,24,25,26,27,28,29,30,31,32,33,34,35,36,37] (by kernel_rfl) ⟨_,j4 (zz dw fx),a,rfl,ha,evE.enc (evA x a),rfl,zz dw hat,nL hb dw.size,cmo zkT ?_⟩;rintro e X ⟨rfl,hbX⟩;refine⟨hbX,?_⟩;have bX:=dw.trans hbX;rw [zqq];refine biE (fun h1=>?_) fun h1=>?_
 ·have h1:zlY x a=true:=h1;refine⟨_,j4 (zz bX fx),d,rfl,hd,evE.enc (evA x d),rfl,zz bX hat2,nL hb bX.size,cmo zkT ?_⟩;rintro e Y ⟨rfl,hbY⟩;refine⟨hbY,?_⟩;have bY:=zst bX hbY;rw [zqq];refine biE (fun h2=>?_) fun h2=>?_
  ·have h2:zlY x d=true:=h2;refine⟨_,j4 (zz bY fx),a,rfl,ha,u8 (evA x a).l,by have:=zc (zz bY hat) (i:=2) (v:=u8 (evA x a).l) rfl;exact this,_,j4 (zz bY fx),d,rfl,hd,u8 (evA x d).l,by have:=zc (zz bY hat2) (i:=2) (v:=u8 (evA x d).l) rfl;exact this,rb ?_,bY⟩;unfold zgB;rw [h1,h2,UD,UD];exact QJ.2 jc
  ·have h2:zlY x d=false:=h2;refine⟨rb ?_,bY⟩;unfold zgB;rw [h1,h2];rfl
 ·have h1:zlY x a=false:=h1;refine brF ⟨rb ?_,bX⟩;unfold zgB;rw [h1];rfl
end
structure ScnV (X:Wd) (b:Nat) (x:ExD) (q:OA) (c:Nat) (f l s:RelD):Prop where
 h:X.heap[b]?=some (.cells (exC x q c++(zf f++(zf l++zf s))).toArray 263 (0,0))
 v:ExV X x q
 wf:zE f.to
 wl:zE l.to
 ws:zE s.to
section
variable {w:Wd} {b c:Nat} {x:ExD} {q:OA} {f l s:RelD}
theorem ScnV.below {X Y:Wd} (h:ScnV X b x q c f l s) (hb:Bw X Y):ScnV Y b x q c f l s:=⟨zb hb h.h,h.v.below hb,h.wf,h.wl,h.ws⟩
theorem ScnV.cells {X:Wd} (h:ScnV X b x q c f l s):zq X ⟨b,0,none⟩ (exC x q c):=by
 have:=zN (n:=0) (m:=333) (za h.h);have e:((exC x q c++(zf f++(zf l++zf s))).toArray.toList.drop 0).take 333=exC x q c:=by
  show (exC x q c++_).take 333=_;rw [Jg (by rw [zH];decide),JE (by rw [zH];decide)]
 rw [e] at this;exact this
theorem ScnV.at {X:Wd} {o:Nat} {r:RelD} (h:ScnV X b x q c f l s) (hr:∃ A T,A.length=o/\exC x q c++(zf f++(zf l++zf s))=A++(zf r++T)):∀ i,i<48->X.cell? ⟨b,o+1+i*1,none⟩=some (s64 (r.to i)):=by
 intro i hi;obtain⟨A,T,hA,hE⟩:=hr;have:(exC x q c++(zf f++(zf l++zf s)))[o+1+i*1]?=some (s64 (r.to i)):=by
  rw [hE,Gi,UL,jj hA,Jp (by rw [zd];omega),zgf r hi]
 have h2:=zc (za h.h) this;rw [Gb] at h2;exact h2
end
abbrev orG (l:List Nat):Nat:=l.foldl (fun s i=>s|||2^i) 0
theorem zpc (l:List Nat) (i:Nat):orG (l++[i])=orG l|||2^i:=by
 unfold orG;rw [KV];rfl
theorem zmp:∀ (l:List Nat) (s:Nat),s<2^64->(∀ i∈l,i<64)->l.foldl (fun s i=>s|||2^i) s<2^64
 | [],s,h,_=>h
 | i::l,s,h,hl=>zmp l (s|||2^i) (Qa h (zV (hl i KB))) fun j hj=>hl j (JW _ hj)
theorem zpd {l:List Nat} (hl:∀ i∈l,i<64):orG l<2^64:=zmp l 0 (by decide) hl
section
variable {w:Wd}
theorem zv0 {p:OA} {cp:Nat} {l:List Nat} (hl:SlR zC w p l) (h64:∀ i∈l,i<64) (hn:l.length<=1000):Calls PG 150 #[.slice p l.length cp] w fun e w'=>e = .returned (.tuple #[s64 (orG l),i64 0])/\w=w':=by
 refine zI 25 [.slice p l.length cp] Tryz.func150 ?_;refine⟨Nat,fun k=>⟨[(4,s64 (orG (l.take k))),(7,.slice p l.length cp),(8,i64 l.length),(9,i64 (k:Nat))],[]⟩,fun k X=>k<=l.length/\w=X,fun k=>l.length-k,0,(cvE rfl rfl),⟨Gj _,rfl⟩,?_⟩;rintro k _ ⟨hk,rfl⟩;dsimp only;refine biE (fun hc=>?_) fun hc=>?_
 ·have hc:(k:Int)<(l.length:Int):=dT hc;have hkl:k<l.length:=by omega
  obtain⟨b,o,rfl,hb,hat⟩:=hl.at hkl;obtain⟨t,ht⟩:∃ t,l[k]=t:=⟨_,rfl⟩;have ht64:=h64 t (by rw [<- ht];exact gM hkl);have htk:orG (l.take (k+1))=orG (l.take k)|||2^t:=by rw [tsg hkl,ht,zpc]
  refine⟨k,rfl,hkl,i64 t,by have:=zc (hat k hkl) (i:=0) (v:=i64 t) (by rw [ht];rfl);exact this,biE (fun h=>?_) fun _=>?_⟩
  ·have h:(t:Int)<0:=dT h;omega
  refine biE (fun h=>?_) fun _=>?_
  ·have h:(64:Int)<=(t:Nat):=dT h;omega
  exact⟨by omega,_,jH (e:=t) (by omega),_,jZ (zpd fun i hi=>h64 i (JZ hi)) (zV ht64),nxI (by omega) ⟨k+1,⟨.cons (by show _=some (s64 (orG (l.take (k+1))));rw [htk];rfl) (.cons rfl (.cons rfl (.cons rfl .nil))),rfl⟩,⟨hkl,rfl⟩,zdc (by omega)⟩⟩
 ·have hc:¬ (k:Int)<(l.length:Int):=dF hc;obtain rfl:k=l.length:=by omega
  rw [Qy];exact⟨rfl,rfl⟩
end
section
variable {b c:Nat} {x:ExD} {q:OA} {w:Wd}
theorem j6 {X:Wd} (fx:ExH X b x q c) {i:Nat} (hi:i<6) {o:Nat} (ho:o=1+49*i):zq X ⟨b,0+o,none⟩ (zf ((zc6 x).getD i x.po)):=by
 rw [ho];exact zfn fx hi
theorem zpL (hv:ExV w x q) (hT:Tz64M w):zE (qp x.rf).to/\zE (frM x).to:=by
 have h1:zE (qp x.rf).to:=by
  unfold qp
  split
  ·rename_i h;intro i hi;refine QB fun hge=>?_;obtain⟨j,hj1,hj2⟩:=Ja hge;rw [show ((⟨x.rf.n,zay x.rf.to x.rf.n.toNat⟩:RelD).to i)=zay x.rf.to x.rf.n.toNat i from rfl,zfO,bAT,dE] at hj2;have h48:=(qy h).2.1;omega
  ·exact fun i _=>(by show 0<2^64;decide)
 exact⟨h1,zjx h1 hv.co⟩
theorem zvQ (fx:ExH w b x q c) (hv:ExV w x q) (hT:Tz64M w):CB 114 #[At0 b] w (.agg (zf (frM x)).toArray):=by
 refine zU 19 [At0 b] (.c .p (.c .p .p)) Tryz.func114 ?_;obtain⟨L,hL⟩:=nm (w.heap.size);obtain⟨wb,wf⟩:=zpL hv hT;refine⟨Unit,fun _=>⟨[(0,At0 b),(2,At0 L)],[]⟩,fun _ X=>zG X L zn/\Bw w X,⟨(),⟨.cons rfl (.cons (by rw [hL];rfl) .nil),rfl⟩,by rw [hL];exact zt w _,(zba w _)⟩,?_⟩;rintro _ X ⟨f0,hbX⟩;refine⟨Nat,fun F=>⟨[(2,At0 L),(3,At0 F)],[]⟩,fun F Z=>zG Z F (frM x)/\zG Z L zn/\Bw w Z,?_,?_⟩
 ·have dX:Bw X X.drew:=(Gm _ _).drew;have fX:=hdr (zb hbX fx);have hba:∀ (A:Wd) (o:Obj),Bw A (A.alloc o):=fun A o=>(zba _ _);have put:∀ (W:Wd) (b3:Nat),Bw X W->zG W b3 zn->X.heap.size<=b3->∀ {K:Wd->Prop},(∀ V,(zG V b3 (frM x)/\zG V L zn/\Bw w V)->K V) ->
    SatR ((storeVar 30 ⟨b3,0,none⟩ (.agg (zf (frM x)).toArray)).run PG W) fun _ w'=>K w':=by
   intro W b3 hW f3 g3 K k;refine zr (v := .agg (zf (frM x)).toArray) k30 f3 (zd _) (zd _) (zB _) ?_;have hL2:=hlt f0;exact k _ ⟨zm f3,(zp (by omega)).trans (zb hW f0),zk ((zst hbX hW)) (by have:=hbX.size;omega) _⟩
  refine DrawE.treeQ [14] (.op 0 (.op 1 (.op 2 (.op 3 (.op 5 (.op 6 (.op 7 (.op 8 (.alt (.op 13 (.op 4 (.op 9 (.op 10 (.op 11 (.op 12 (.op 14 (.op 15 (.nil))))))))) (.op 4 (.alt (.op 13 (.op 9 (.op 10 (.op 11 (.op 12 (.op 14 (.op 15 (.nil)))))))) (.op 9 (.op 10 (.op 11 (.op 12 (.op 13 (.op 14 (.op 15 (.nil))))))))))))))))))) (by kernel_rfl) ⟨zf x.rf,zd _,j6 fX (i:=1) (by decide) rfl,hlt fX,zf x.co,zd _,j6 fX (i:=2) (by decide) rfl,hlt fX,Gs ?_ ?_⟩
  ·refine⟨hba _ _,?_⟩;have b1:=dX.alloc (Gh _) (.cells (zf zn).toArray 30);refine cmo (zet hv.rf (hT.below ((zst hbX b1)))) ?_;rintro e Y ⟨rfl,hbY,_⟩;refine⟨hbY,?_⟩;have b2:=zst b1 hbY;refine cmo (zhz wb hv.co (hT.below ((zst hbX b2)))) ?_;rintro e Z ⟨rfl,hbZ⟩;exact⟨hbZ,put Z X.heap.size ((zst b2 hbZ)) (zb hbZ (zb hbY (zt X.drew _))) (Gh _) (fun V hV=>⟨X.heap.size,(cvE rfl rfl),hV⟩)⟩
  refine cmo (zet hv.rf (hT.below ((zst hbX dX)))) ?_;rintro e Y ⟨rfl,hbY,_⟩;refine⟨hbY,?_⟩;have b1:=zst dX hbY;refine Gs ?_ ?_
  ·refine⟨hba _ _,?_⟩;have b2:=b1.alloc b1.size (.cells (zf zn).toArray 30);refine cmo (zhz wb hv.co (hT.below ((zst hbX b2)))) ?_;rintro e Z ⟨rfl,hbZ⟩;exact⟨hbZ,put Z Y.heap.size ((zst b2 hbZ)) (zb hbZ (zt Y _)) b1.size (fun V hV=>⟨Y.heap.size,(cvE rfl rfl),hV⟩)⟩
  ·refine cmo (zhz wb hv.co (hT.below ((zst hbX b1)))) ?_;rintro e Z ⟨rfl,hbZ⟩;refine⟨hbZ,?_⟩;have b2:=zst b1 hbZ;exact⟨hba _ _,put _ Z.heap.size (b2.alloc b2.size _) (zt Z _) b2.size (fun V hV=>⟨Z.heap.size,(cvE rfl rfl),hV⟩)⟩
 rintro F Z ⟨f1,f0,hbZ⟩;exact⟨zf (frM x),zd _,za f1,hlt f1,zr (v := .agg (zf (frM x)).toArray) k30 f0 (zd _) (zd _) (zB _) ⟨zf (frM x),zd _,za (zm f0),rfl,zk hbZ (by omega) _⟩⟩
end
structure RelOk (n:Nat) (r:RelD):Prop where
 n:r.n=n
 ok:okR r=true
 w:zE r.to
section
variable {n:Nat} {r a b:RelD}
theorem RelOk.le (h:RelOk n r):n<=48:=by
 have:=(qy h.ok).2.1;have:=h.n;omega
theorem RelOk.bit (h:RelOk n r) {i j:Nat} (hi:i<48) (hb:qN r i j=true):i<n/\j<n:=by
 have:=ziW h.ok h.w hi hb;have:=h.n;omega
theorem ztb (hn:r.n=n) (h48:n<=48) (h:∀ i j,i<48->qN r i j=true->i<n/\j<n):okR r=true:=by
 unfold okR;rw [bAT,bAT,dE,dE,Ql];refine⟨by omega,by omega,fun i hi=>?_⟩;have hi:=Ut.1 hi;unfold zbN;rw [bAT,QK,dE,dE,dE];refine⟨?_,?_⟩
 ·rw [ze1,zcl];apply Ka;intro j;rw [QF];by_cases hj:j<64
  ·rw [zfB (qS _) hj,zdC (by omega) (by omega) hj]
   cases hb:(r.to i).testBit j with
   | false=>rfl
   | true =>
    have:=(h i j hi hb).2;rw [Ux (by omega)];rfl
  ·have:=JF (nL (KG (show jA (r.to i) (jk r.n)<=_ from Qz) (show 18446744073709551615-jk r.n<2^64 by omega)) (Kb (show 0<2 by decide) (show 64<=j by omega)));exact this
 ·by_cases hin:i<n
  ·exact .inl (by omega)
  ·refine .inr (Ka fun j=>?_);rw [QF]
   cases hb:(r.to i).testBit j with
   | false=>rfl
   | true=>exact GD (h i j hi hb).1 hin
theorem RelOk.of (hn:r.n=n) (h48:n<=48) (h:∀ i j,i<48->qN r i j=true->i<n/\j<n) (hw:zE r.to):RelOk n r:=⟨hn,ztb hn h48 h,hw⟩
theorem ziM (p:Nat->Bool):∀ k j,(zf6 k p).testBit j=(decide (j<k)&&p j)
 | 0,j=>by
  show (0:Nat).testBit j=_;simp
 | k+1,j=>by
  rw [zdH]
  split
  ·rename_i h;rw [Uw,ziM p k j,ziQ];by_cases e:j=k
   ·subst e;simp [h]
   ·rw [Ul e,UC];congr 1;exact QJ.2 (by omega)
  ·rename_i h;rw [ziM p k j];by_cases e:j=k
   ·subst e;have:p j=false:=(by simpa using h);rw [this,Um,Um]
   ·congr 1;exact QJ.2 (by omega)
theorem za3 {f:Nat->Nat} {i j:Nat}:qN (ji n f) i j=(decide (i<n)&&(f i).testBit j):=by
 unfold qN ji;dsimp only
 split
 ·rename_i h;rw [Ux h];rfl
 ·rename_i h;rw [Ul h,QF];rfl
theorem zgH {p:Nat->Nat->Bool} {i j:Nat}:qN (zbr n p) i j=(decide (i<n)&&(decide (j<n)&&p i j)):=by
 unfold zbr;rw [za3,ziM]
theorem RelOk.pick (h:n<=48) (p:Nat->Nat->Bool):RelOk n (zbr n p):=by
 refine .of rfl h (fun i j _ hb=>?_) (zeM (by omega));rw [zgH] at hb;simp only [bAT,dE] at hb;exact⟨hb.1,hb.2.1⟩
theorem zbz {f:Nat->Nat} (ha:RelOk n a) (hb:RelOk n b):comb a b f=(ji n f,0):=by
 unfold comb;have e:a.n.toNat=n:=by have:=ha.n;omega
 rw [Ux (ha.n.trans hb.n.symm),ha.ok,hb.ok,GC (show (true&&(true&&true))=true from rfl),e]
theorem RelOk.comb {f:Nat->Nat} (ha:RelOk n a) (hb:RelOk n b) (hf:∀ i j,i<n->(f i).testBit j=true->j<n):RelOk n (comb a b f).1:=by
 rw [zbz ha hb];have h48:=ha.le;have hbit:∀ i j,qN (ji n f) i j=true->i<n/\j<n:=fun i j h=>by
  rw [za3,bAT,dE] at h;exact⟨h.1,hf i j h.1 h.2⟩
 refine .of rfl h48 (fun i j _ h=>hbit i j h) fun i hi=>?_;apply QB;intro hge;obtain⟨j,hj1,hj2⟩:=Ja hge;have:=(hbit i j hj2).2;omega
theorem zhN (ha:RelOk n a) (hb:RelOk n b) {i j:Nat} (hi:i<n):qN (zX a b).1 i j=(qN a i j||qN b i j):=by
 unfold zX;rw [zbz ha hb];show qN (ji n _) i j=_;rw [za3,Ux hi,Uw];rfl
theorem RelOk.union (ha:RelOk n a) (hb:RelOk n b):RelOk n (zX a b).1:=ha.comb hb fun i j hi h=>by
 rw [Uw,QK] at h;have h48:=ha.le;rcases h with h | h
 ·exact (ha.bit (by omega) h).2
 ·exact (hb.bit (by omega) h).2
theorem zqg (ha:RelOk n a) (hb:RelOk n b) {i j:Nat} (hi:i<n):qN (zaT a b).1 i j=(qN a i j&&qN b i j):=by
 unfold zaT;rw [zbz ha hb];show qN (ji n _) i j=_;rw [za3,Ux hi,Uf];rfl
theorem RelOk.both (ha:RelOk n a) (hb:RelOk n b):RelOk n (zaT a b).1:=ha.comb hb fun i j hi h=>by
 rw [Uf,bAT] at h;have h48:=ha.le;exact (ha.bit (by omega) h.1).2
theorem RelOk.minus (ha:RelOk n a) (hb:RelOk n b):RelOk n (zaQ a b).1:=ha.comb hb fun i j hi h=>by
 rw [ze1] at h;unfold jA at h;rw [Uf,bAT] at h;have h48:=ha.le;exact (ha.bit (by omega) h.1).2
theorem zof (ha:RelOk n a) {i j:Nat} (hi:i<64):qN (qp a) i j=(decide (j<n)&&qN a j i):=by
 unfold qN;rw [zkR ha.ok];have e1:decide ((j:Int)<a.n)=decide (j<n):=QJ.2 (by have:=ha.n;omega);have e2:decide (i∈els (a.to j))=(a.to j).testBit i:=by
  cases h:(a.to j).testBit i with
  | true=>exact Ux (zdL.2 ⟨hi,h⟩)
  | false=>exact Ul fun hm=>by rw [(zdL.1 hm).2] at h;cases h
 rw [e1,e2]
theorem RelOk.back (ha:RelOk n a):RelOk n (qp a):=by
 have h48:=ha.le;have hbit:∀ i j,i<48->qN (qp a) i j=true->i<n/\j<n:=fun i j hi h=>by
  rw [zof ha (by omega),bAT,dE] at h;exact⟨(ha.bit (by omega) h.2).2,h.1⟩
 refine .of ?_ h48 hbit fun i hi=>?_
 ·unfold qp;rw [GC ha.ok];exact ha.n
 ·apply QB;intro hge;obtain⟨j,hj1,hj2⟩:=Ja hge;have:=(hbit i j hi hj2).2;omega
theorem zil {tq:Nat->Nat} {j:Nat}:∀ (l:List Nat) (t:Nat),(l.foldl (fun t a=>t|||tq a) t).testBit j=(t.testBit j||l.any fun a=>(tq a).testBit j)
 | [],t=>by simp
 | a::l,t=>by rw [QR,zil l,Uw,UH,Bool.or_assoc]
theorem RelOk.then (ha:RelOk n a) (hb:RelOk n b):RelOk n (zbq a b).1:=ha.comb hb fun i j hi h=>by
 have h48:=ha.le;unfold zaS at h;rw [zil,QF,UA,Qm] at h;obtain⟨k,hk,h⟩:=h;have:=(ha.bit (by omega) (zdL.1 hk).2).2;exact (hb.bit (by omega) h).2
theorem zou (ha:RelOk n a) (hb:RelOk n b):(zX a b).2=0:=by unfold zX;rw [zbz ha hb]
theorem zr5 (ha:RelOk n a) (hb:RelOk n b):(zaT a b).2=0:=by unfold zaT;rw [zbz ha hb]
theorem zpp (ha:RelOk n a) (hb:RelOk n b):(zaQ a b).2=0:=by unfold zaQ;rw [zbz ha hb]
theorem zin {tq:Nat->Nat}:∀ (l:List Nat) (s:Nat),l.foldl (fun s a=>if tq a=0 then s else s|||2^a) s=0↔s=0/\∀ i∈l,tq i=0
 | [],s=>by simp
 | a::l,s=>by
  rw [QR,zin l];by_cases h:tq a=0
  ·rw [GC h];simp [h]
  ·rw [GB h];have:s|||2^a≠0:=fun e=>by
    have h2:=Gw (fun s=>s.testBit a) e;simp only [Uw,ziQ,QF,decide_true,Bool.or_true] at h2
    cases h2
   simp [h,this]
theorem znY (ha:RelOk n a):zdy a=true↔∀ i j,i<n->j<n->qN a i j=false:=by
 have h48:=ha.le;have e:a.n.toNat=n:=by have:=ha.n;omega
 unfold zdy zio;rw [ha.ok,UD,dE,GC rfl,e,zin];constructor
 ·rintro⟨_,h⟩ i j hi _;unfold qN;rw [h i (Ut.2 hi),QF]
 ·intro h;refine⟨rfl,fun i hi=>Ka fun j=>?_⟩;have hi:=Ut.1 hi;rw [QF]
  cases hb:(a.to i).testBit j with
  | false=>rfl
  | true =>
   have:=h i j hi (ha.bit (by omega) hb).2;unfold qN at this;rw [hb] at this;cases this
end
structure WX (x:ExD):Prop where
 po:zE x.po.to
 rf:zE x.rf.to
 co:zE x.co.to
 dt:zE x.dt.to
 ct:zE x.ct.to
 rm:zE x.rm.to
structure XOk (x:ExD):Prop where
 n:x.ev.length<=48
 po:RelOk x.ev.length x.po
 rf:RelOk x.ev.length x.rf
 co:RelOk x.ev.length x.co
 dt:RelOk x.ev.length x.dt
 ct:RelOk x.ev.length x.ct
 rm:RelOk x.ev.length x.rm
 ev:jU x.ev (zaC x.ev)=true
 poE:zaO x.po (poR x.ev)=true
 rfR:zb8 x=true
 coR:zcj x (zaC x.ev)=true
 dep:zbi x=true
section
variable {x:ExD}
theorem zoj (hw:WX x) (h:zY x=true):XOk x:=by
 unfold zY zbA at h;simp only [UG,List.all_nil,Bool.and_true,bAT,dE] at h;obtain⟨h1,_,_,h4,⟨h5,h6,h7,h8,h9,h10⟩,h11,h12,h13,h14⟩:=h;exact⟨h1,⟨h5.1,h5.2,hw.po⟩,⟨h6.1,h6.2,hw.rf⟩,⟨h7.1,h7.2,hw.co⟩,⟨h8.1,h8.2,hw.dt⟩,⟨h9.1,h9.2,hw.ct⟩,⟨h10.1,h10.2,hw.rm⟩,h4,h11,h12,h13,h14⟩
theorem ztq (h:XOk x):RelOk x.ev.length (frM x):=h.rf.back.then h.co
end
theorem zfo {X:Wd} {L:Nat} {r:RelD} (h:zG X L r):∀ i,i<48->X.cell? ⟨L,0+1+i*1,none⟩=some (s64 (r.to i)):=by
 have hR:RelAt X L 0 30 [] [] r:=⟨rfl,by simpa using h⟩;exact fun i hi=>hR.cell hi
section
variable {b c:Nat} {x:ExD} {q:OA} {w:Wd}
theorem ztu {r:RelD} {a d R B:Nat} (fR:zG w R r) (hr:zE r.to) (fB:w.heap[B]?=some (.cells #[At0 b] 86 (0,0))) (fx:ExH w b x q c) (hv:ExV w x q) (ha:a<x.ev.length) (hd:d<x.ev.length) :
  CB 167 #[i64 (a:Nat),i64 (d:Nat),At0 R,At0 B] w (.bool (qN r a d && !decide ((evA x a).th=(evA x d).th))):=by
 refine zI 29 [i64 (a:Nat),i64 (d:Nat),At0 R,At0 B] Tryz.func167 ?_;have hn:=hv.n;obtain⟨bq,oq,hqe,hb,hat⟩:=zfG hv.ev ha;obtain⟨bq2,oq2,hqe2,hb2,hat2⟩:=zfG hv.ev hd;rw [hqe] at hqe2;simp only [Qb,Uz,Gu] at hqe2;rw [<- hqe2.1,<- hqe2.2] at hat2;subst hqe;have dw:Bw w w.drew:=(Gm _ _).drew;refine DrawE.ord [] [0,1,2,3,4,5,6,7,8,9,10,11,12,13,14,15,16,17,18,19,20,21,22] (by kernel_rfl) (cmo (zim (zfo (hdr fR)) hr (by omega) (by omega)) ?_);rintro e _ ⟨rfl,rfl⟩;refine⟨Gm _ _,biE (fun h1=>?_) fun h1=>?_⟩
 ·have h1:qN r a d=true:=h1;exact⟨At0 b,zc (za (hdr fB)) (i:=0) rfl,_,j4 (za (hdr fx)),a,rfl,ha,i64 (evA x a).th,by have:=zc (zz dw hat) (i:=0) (v:=i64 (evA x a).th) rfl;exact this,At0 b,zc (za (hdr fB)) (i:=0) rfl,_,j4 (za (hdr fx)),d,rfl,hd,i64 (evA x d).th,by have:=zc (zz dw hat2) (i:=0) (v:=i64 (evA x d).th) rfl;exact this,rb (by rw [h1,UD]),dw⟩
 ·have h1:qN r a d=false:=h1;exact⟨rb (by rw [h1,Un]),dw⟩
theorem zu5 {r:RelD} (fx:ExH w b x q c) (hv:ExV w x q) (hr:zE r.to) (hn:r.n=x.ev.length) :
  CB 120 #[At0 b,.agg (zf r).toArray] w (.agg (zf (zfF x r)).toArray):=by
 refine zU 9 [At0 b,.agg (zf r).toArray] (.c .p (.c .p .p)) Tryz.func120 ?_;obtain⟨L,hL⟩:=nm (w.heap.size);have h19:=hv.n;refine⟨Unit,fun _=>⟨[(2,At0 L),(3,At0 (L+1)),(4,At0 (L+2))],[]⟩,fun _ X=>X.heap[L]?=some (.cells #[At0 b] 86 (0,0))/\zG X (L+1) r/\zG X (L+2) zn/\Bw w X,?_,?_⟩
 ·have s1:=wz w (.cells #[At0 b] 86);have s2:=wz (w.alloc (.cells #[At0 b] 86)) (.cells (zf r).toArray 30);have b1:Bw w (w.alloc (.cells #[At0 b] 86)):=zba w _;have b2:=b1.alloc b1.size (.cells (zf r).toArray 30);have h1:=zt w (.cells #[At0 b] 86);have h2:=zt (w.alloc (.cells #[At0 b] 86)) (.cells (zf r).toArray 30);have h3:=zt ((w.alloc (.cells #[At0 b] 86)).alloc (.cells (zf r).toArray 30)) (.cells (zf zn).toArray 30);rw [s1] at h2 s2;rw [s2] at h3;refine⟨(),⟨.cons (by rw [hL];rfl) (.cons (by rw [hL,<- s1];rfl) (.cons (by rw [hL,<- s2];rfl) .nil)),rfl⟩,by rw [hL];exact qe _ (qe _ h1),by rw [hL];exact qe _ h2,by rw [hL];exact h3,b2.alloc b2.size _⟩
 rintro _ X ⟨fB,fR,f0,hbX⟩;have fX:=zb hbX fx;have hvX:=hv.below hbX;refine⟨Unit,fun _=>⟨[(4,At0 (L+2))],[]⟩,fun _ Y=>zG Y (L+2) (zfF x r)/\Bw w Y,?_,?_⟩
 ·refine⟨i64 r.n,by have:=zc (za fR) (i:=0) (v:=i64 r.n) rfl;exact this,?_⟩;have en:zfF x r=zbr x.ev.length fun a d=>qN r a d && !decide ((evA x a).th=(evA x d).th):=by
   unfold zfF;rw [hn];rfl
  rw [hn];refine cmo (zln (n:=x.ev.length) (caps := #[At0 (L+1),At0 L]) (g:=167) (p:=fun a d=>qN r a d && !decide ((evA x a).th=(evA x d).th)) (by omega) (by kernel_rfl) fun a d Z ha hd hb=>ztu (zb hb fR) hr (zb hb fB) (zb hb fX) (hvX.below hb) ha hd) ?_;rintro e Y ⟨rfl,hbY⟩;rw [<- en];have f0:=zb hbY f0;exact zr (v := .agg (zf (zfF x r)).toArray) k30 f0 (zd _) (zd _) (zB _) ⟨(),(cvE rfl rfl),zm f0,zk ((zst hbX hbY)) (by omega) _⟩
 rintro _ Y ⟨f0,hbY⟩;exact⟨zf (zfF x r),zd _,za f0,rfl,hbY⟩
end
section
variable {b c:Nat} {x:ExD} {q:OA} {w:Wd}
theorem ztl {r:RelD} {a d R:Nat} (fR:zG w R r) (hr:zE r.to) (fx:ExH w b x q c) (hv:ExV w x q) (ha:a<x.ev.length) (hd:d<x.ev.length) :
  CB 148 #[i64 (a:Nat),i64 (d:Nat),At0 R,At0 b] w (.bool (qN r a d&&decide ((evA x a).th=(evA x d).th))):=by
 refine zI 25 [i64 (a:Nat),i64 (d:Nat),At0 R,At0 b] Tryz.func148 ?_;have hn:=hv.n;obtain⟨bq,oq,hqe,hb,hat⟩:=zfG hv.ev ha;obtain⟨bq2,oq2,hqe2,hb2,hat2⟩:=zfG hv.ev hd;rw [hqe] at hqe2;simp only [Qb,Uz,Gu] at hqe2;rw [<- hqe2.1,<- hqe2.2] at hat2;subst hqe;have dw:Bw w w.drew:=(Gm _ _).drew;refine DrawE.ord [] [0,1,2,3,4,5,6,7,8,9,10,11,12,13,14,15,16,17,18] (by kernel_rfl) (cmo (zim (zfo (hdr fR)) hr (by omega) (by omega)) ?_);rintro e _ ⟨rfl,rfl⟩;refine⟨Gm _ _,biE (fun h1=>?_) fun h1=>?_⟩
 ·have h1:qN r a d=true:=h1;exact⟨_,j4 (za (hdr fx)),a,rfl,ha,i64 (evA x a).th,by have:=zc (zz dw hat) (i:=0) (v:=i64 (evA x a).th) rfl;exact this,_,j4 (za (hdr fx)),d,rfl,hd,i64 (evA x d).th,by have:=zc (zz dw hat2) (i:=0) (v:=i64 (evA x d).th) rfl;exact this,rb (by rw [h1,UD]),dw⟩
 ·have h1:qN r a d=false:=h1;exact⟨rb (by rw [h1,Un]),dw⟩
theorem zth {a d:Nat} (fx:ExH w b x q c) (hv:ExV w x q) (ha:a<x.ev.length) (hd:d<x.ev.length) :
  CB 146 #[i64 (a:Nat),i64 (d:Nat),At0 b] w (.bool (zgB x a d)):=by
 refine zI 9 [i64 (a:Nat),i64 (d:Nat),At0 b] Tryz.func146 ?_;refine cmo (zsX (za fx) hv.ev ha hd) ?_;rintro e X ⟨rfl,hb⟩;exact⟨rfl,hb⟩
end
section
variable {b c:Nat} {x:ExD} {q:OA} {w:Wd}
def zbf (x:ExD) (r:RelD):Bool:=okR r&&(decide (r.n=x.ev.length)&&zY x)
theorem zft {p:Bool} (h:(!p)=true):p=false:=by simpa using h
theorem zed {p:Bool} (h:(!p)=false):p=true:=by simpa using h
theorem zW {X:Wd} {L:Nat} {r r0:RelD} (f0:zG X L r0) (hL:w.heap.size<=L) (hbX:Bw w X) {K:Wd->Prop} (k:∀ Y,zG Y L r->Bw w Y->K Y) :
  SatR ((storeVar 30 ⟨L,0,none⟩ (.agg (zf r).toArray)).run PG X) fun _ w'=>K w' :=
 zr (v := .agg (zf r).toArray) k30 f0 (zd _) (zd _) (zB _) (k _ (zm f0) (zk hbX hL _))
def frX (x:ExD):RelD:=if zY x=true then frM x else zn
def zkf (x:ExD):RelD:=if zY x=true then zrm x else zn
def zku (x:ExD) (r:RelD):RelD:=if zbf x r=true then zfF x r else zn
def zkk (x:ExD) (r:RelD):RelD:=if zbf x r=true then zi5 x r else zn
theorem zel {r:RelD} (h:zbf x r=true):okR r=true/\r.n=x.ev.length/\zY x=true:=by
 unfold zbf at h;rw [bAT,bAT,dE] at h;exact h
theorem zct (w:Wd) (x:ExD) (q:OA) (c:Nat) (r:RelD) (T:TypeId) : 
  ExH ((w.alloc (.cells (exC x q c).toArray 37)).alloc (.cells (zf r).toArray T)) w.heap.size x q c/\((w.alloc (.cells (exC x q c).toArray 37)).alloc (.cells (zf r).toArray T)).heap[w.heap.size+1]?=some (.cells (zf r).toArray T (0,0)) /\
   ((w.alloc (.cells (exC x q c).toArray 37)).alloc (.cells (zf r).toArray T)).heap.size=w.heap.size+2/\Bw w ((w.alloc (.cells (exC x q c).toArray 37)).alloc (.cells (zf r).toArray T)):=by
 have s1:=wz w (.cells (exC x q c).toArray 37);have h2:=zt (w.alloc (.cells (exC x q c).toArray 37)) (.cells (zf r).toArray T);have s2:=wz (w.alloc (.cells (exC x q c).toArray 37)) (.cells (zf r).toArray T);rw [s1] at h2 s2;have b1:Bw w (w.alloc (.cells (exC x q c).toArray 37)):=zba w _;exact⟨qe _ (zt w _),h2,s2,b1.alloc b1.size _⟩
theorem zpM {r:RelD} (hv:ExV w x q) (hr:zE r.to) (hT:Tz64M w):CB 147 #[.agg (exC x q c).toArray,.agg (zf r).toArray] w (.bool (zbf x r)):=by
 refine zU 19 [.agg (exC x q c).toArray,.agg (zf r).toArray] (.c .p .p) Tryz.func147 ?_;obtain⟨L,hL⟩:=nm (w.heap.size);refine⟨Unit,fun _=>⟨[(2,At0 L),(3,At0 (L+1))],[]⟩,fun _ X=>ExH X L x q c/\zG X (L+1) r/\Bw w X,?_,?_⟩
 ·obtain⟨h1,h2,h3,h4⟩:=zct w x q c r 30;have s1:=wz w (.cells (exC x q c).toArray 37);exact⟨(),⟨.cons (by rw [hL];rfl) (.cons (by rw [hL,<- s1];rfl) .nil),rfl⟩,by rw [hL];exact h1,by rw [hL];exact h2,h4⟩
 rintro _ X ⟨fX,fR,hbX⟩;refine⟨zf r,zd _,za fR,hlt fR,cmo (qA hr) ?_⟩;rintro e Y ⟨rfl,hbY⟩;have bY:=zst hbX hbY;refine biE (fun h1=>?_) fun h1=>?_
 ·have h1:okR r=true:=h1;refine⟨i64 r.n,by have:=zc (za (zb hbY fR)) (i:=0) (v:=i64 r.n) rfl;exact this,_,j4 (za (zb hbY fX)),biE (fun h2=>?_) fun h2=>?_⟩
  ·have h2:r.n=(x.ev.length:Int):=dT h2;refine⟨exC x q c,zH _ _ _,za (zb hbY fX),hlt (zb hbY fX),cmo (zdD (hv.below bY) (hT.below bY)) ?_⟩;rintro e Z ⟨rfl,hbZ⟩;exact⟨rb (by unfold zbf;rw [h1,Ux h2];rfl),(zst bY hbZ)⟩
  ·have h2:¬ r.n=(x.ev.length:Int):=dF h2;exact⟨rb (by unfold zbf;rw [h1,Ul h2];rfl),bY⟩
 ·have h1:okR r=false:=h1;exact brF ⟨rb (by unfold zbf;rw [h1];rfl),bY⟩
theorem zvm (hv:ExV w x q) (hT:Tz64M w):CB 98 #[.agg (exC x q c).toArray] w (.agg (zf (frX x)).toArray):=by
 refine zU 8 [.agg (exC x q c).toArray] (.c .p .p) Tryz.func98 ?_;obtain⟨L,hL⟩:=nm (w.heap.size);have hn:=hv.n;refine⟨Unit,fun _=>⟨[(1,At0 L),(2,At0 (L+1))],[]⟩,fun _ X=>ExH X L x q c/\zG X (L+1) zn/\Bw w X,?_,?_⟩
 ·obtain⟨h1,h2,h3,h4⟩:=zct w x q c zn 30;have s1:=wz w (.cells (exC x q c).toArray 37);exact⟨(),⟨.cons (by rw [hL];rfl) (.cons (by rw [hL,<- s1];rfl) .nil),rfl⟩,by rw [hL];exact h1,by rw [hL];exact h2,h4⟩
 rintro _ X ⟨fX,f0,hbX⟩;have zero:frX x=zn->∀ {Y:Wd},Bw X Y->SatR ((storeVar 30 ⟨L+1,0,none⟩ (.agg (zf zn).toArray)).run PG Y) fun _ w'=>∃ cells,cells.length=49/\zq w' ⟨L+1,0,none⟩ cells/\Ending.returned (.agg cells.toArray) = .returned (.agg (zf (frX x)).toArray)/\Bw w w':=fun h0 {Y} hb=>by
  rw [h0];exact zW (zb hb f0) (by omega) ((zst hbX hb)) fun Z fZ bZ=>⟨zf zn,zd _,za fZ,rfl,bZ⟩
 refine⟨exC x q c,zH _ _ _,za fX,hlt fX,cmo (zdD (hv.below hbX) (hT.below hbX)) ?_⟩;rintro e Y ⟨rfl,hbY⟩;have bY:=zst hbX hbY;have fY:=zb hbY fX;refine biE (fun h2=>?_) fun h2=>?_
 ·have h2:zY x=false:=zft h2;refine⟨zf zn,by kernel_rfl,?_⟩;exact zero (GB fun h=>by rw [h2] at h;cases h) hbY
 ·have h2:zY x=true:=zed h2;have e0:frX x=frM x:=GC h2;rw [e0];refine cmo (zvQ fY (hv.below bY) (hT.below bY)) ?_;rintro e Z ⟨rfl,hbZ⟩;exact zW (zb hbZ (zb hbY f0)) (by omega) ((zst bY hbZ)) fun V fV bV=>⟨zf (frM x),zd _,za fV,rfl,bV⟩
theorem zt5 (hv:ExV w x q) (hT:Tz64M w):CB 99 #[.agg (exC x q c).toArray] w (.agg (zf (zkf x)).toArray):=by
 refine zU 12 [.agg (exC x q c).toArray] (.c .p .p) Tryz.func99 ?_;obtain⟨L,hL⟩:=nm (w.heap.size);have hn:=hv.n;refine⟨Unit,fun _=>⟨[(1,At0 L),(2,At0 (L+1))],[]⟩,fun _ X=>ExH X L x q c/\zG X (L+1) zn/\Bw w X,?_,?_⟩
 ·obtain⟨h1,h2,h3,h4⟩:=zct w x q c zn 30;have s1:=wz w (.cells (exC x q c).toArray 37);exact⟨(),⟨.cons (by rw [hL];rfl) (.cons (by rw [hL,<- s1];rfl) .nil),rfl⟩,by rw [hL];exact h1,by rw [hL];exact h2,h4⟩
 rintro _ X ⟨fX,f0,hbX⟩;have zero:zkf x=zn->∀ {Y:Wd},Bw X Y->SatR ((storeVar 30 ⟨L+1,0,none⟩ (.agg (zf zn).toArray)).run PG Y) fun _ w'=>∃ cells,cells.length=49/\zq w' ⟨L+1,0,none⟩ cells/\Ending.returned (.agg cells.toArray) = .returned (.agg (zf (zkf x)).toArray)/\Bw w w':=fun h0 {Y} hb=>by
  rw [h0];exact zW (zb hb f0) (by omega) ((zst hbX hb)) fun Z fZ bZ=>⟨zf zn,zd _,za fZ,rfl,bZ⟩
 refine⟨exC x q c,zH _ _ _,za fX,hlt fX,cmo (zdD (hv.below hbX) (hT.below hbX)) ?_⟩;rintro e Y ⟨rfl,hbY⟩;have bY:=zst hbX hbY;have fY:=zb hbY fX;refine biE (fun h2=>?_) fun h2=>?_
 ·have h2:zY x=false:=zft h2;refine⟨zf zn,by kernel_rfl,?_⟩;exact zero (GB fun h=>by rw [h2] at h;cases h) hbY
 ·have h2:zY x=true:=zed h2;have e0:zkf x=zrm x:=GC h2;rw [e0];refine⟨_,j4 (za fY),cmo (zln (n:=x.ev.length) (caps := #[At0 L]) (g:=146) (p:=zgB x) (by omega) (by kernel_rfl) fun a d Z ha hd hb=>zth (zb hb fY) ((hv.below bY).below hb) ha hd) ?_⟩;rintro e Z ⟨rfl,hbZ⟩;exact zW (zb hbZ (zb hbY f0)) (by omega) ((zst bY hbZ)) fun V fV bV=>⟨zf (zrm x),zd _,za fV,rfl,bV⟩
theorem zub {r:RelD} (hv:ExV w x q) (hr:zE r.to) (hT:Tz64M w):CB 100 #[.agg (exC x q c).toArray,.agg (zf r).toArray] w (.agg (zf (zku x r)).toArray):=by
 refine zU 12 [.agg (exC x q c).toArray,.agg (zf r).toArray] (.c .p .p) Tryz.func100 ?_;obtain⟨L,hL⟩:=nm (w.heap.size);have hn:=hv.n;refine⟨Unit,fun _=>⟨[(2,At0 L),(3,At0 (L+1)),(4,At0 (L+2))],[]⟩,fun _ X=>ExH X L x q c/\zG X (L+1) r/\zG X (L+2) zn/\Bw w X,?_,?_⟩
 ·obtain⟨h1,h2,h3,h4⟩:=zct w x q c r 30;have s1:=wz w (.cells (exC x q c).toArray 37);obtain⟨U,hU⟩:=nm ((w.alloc (.cells (exC x q c).toArray 37)).alloc (.cells (zf r).toArray 30));rw [<- hU] at h1 h2 h3 h4;have f3:=zt U (.cells (zf zn).toArray 30);rw [h3] at f3;subst hU;exact⟨(),⟨.cons (by rw [hL];rfl) (.cons (by rw [hL,<- s1];rfl) (.cons (by rw [hL,<- h3];rfl) .nil)),rfl⟩,by rw [hL];exact qe _ h1,by rw [hL];exact qe _ h2,by rw [hL];exact f3,h4.alloc h4.size _⟩
 rintro _ X ⟨fX,fR,f0,hbX⟩;have zero:zku x r=zn->∀ {Y:Wd},Bw X Y->SatR ((storeVar 30 ⟨L+2,0,none⟩ (.agg (zf zn).toArray)).run PG Y) fun _ w'=>∃ cells,cells.length=49/\zq w' ⟨L+2,0,none⟩ cells/\Ending.returned (.agg cells.toArray) = .returned (.agg (zf (zku x r)).toArray)/\Bw w w':=fun h0 {Y} hb=>by
  rw [h0];exact zW (zb hb f0) (by omega) ((zst hbX hb)) fun Z fZ bZ=>⟨zf zn,zd _,za fZ,rfl,bZ⟩
 refine⟨exC x q c,zH _ _ _,za fX,hlt fX,zf r,zd _,za fR,hlt fR,cmo (zpM (hv.below hbX) hr (hT.below hbX)) ?_⟩;rintro e Y ⟨rfl,hbY⟩;have bY:=zst hbX hbY;have fY:=zb hbY fX;refine biE (fun h2=>?_) fun h2=>?_
 ·have h2:zbf x r=false:=zft h2;refine⟨zf zn,by kernel_rfl,?_⟩;exact zero (GB fun h=>by rw [h2] at h;cases h) hbY
 ·have h2:zbf x r=true:=zed h2;have h3:=zel h2;have e0:zku x r=zfF x r:=GC h2;rw [e0];refine⟨zf r,zd _,za (zb hbY fR),hlt (zb hbY fR),cmo (zu5 fY (hv.below bY) hr h3.2.1) ?_⟩;rintro e Z ⟨rfl,hbZ⟩;exact zW (zb hbZ (zb hbY f0)) (by omega) ((zst bY hbZ)) fun V fV bV=>⟨zf (zfF x r),zd _,za fV,rfl,bV⟩
theorem zt9 {r:RelD} (hv:ExV w x q) (hr:zE r.to) (hT:Tz64M w):CB 101 #[.agg (exC x q c).toArray,.agg (zf r).toArray] w (.agg (zf (zkk x r)).toArray):=by
 refine zU 14 [.agg (exC x q c).toArray,.agg (zf r).toArray] (.c .p .p) Tryz.func101 ?_;obtain⟨L,hL⟩:=nm (w.heap.size);have hn:=hv.n;refine⟨Unit,fun _=>⟨[(2,At0 L),(3,At0 (L+1)),(4,At0 (L+2))],[]⟩,fun _ X=>ExH X L x q c/\zG X (L+1) r/\zG X (L+2) zn/\Bw w X,?_,?_⟩
 ·obtain⟨h1,h2,h3,h4⟩:=zct w x q c r 30;have s1:=wz w (.cells (exC x q c).toArray 37);obtain⟨U,hU⟩:=nm ((w.alloc (.cells (exC x q c).toArray 37)).alloc (.cells (zf r).toArray 30));rw [<- hU] at h1 h2 h3 h4;have f3:=zt U (.cells (zf zn).toArray 30);rw [h3] at f3;subst hU;exact⟨(),⟨.cons (by rw [hL];rfl) (.cons (by rw [hL,<- s1];rfl) (.cons (by rw [hL,<- h3];rfl) .nil)),rfl⟩,by rw [hL];exact qe _ h1,by rw [hL];exact qe _ h2,by rw [hL];exact f3,h4.alloc h4.size _⟩
 rintro _ X ⟨fX,fR,f0,hbX⟩;have zero:zkk x r=zn->∀ {Y:Wd},Bw X Y->SatR ((storeVar 30 ⟨L+2,0,none⟩ (.agg (zf zn).toArray)).run PG Y) fun _ w'=>∃ cells,cells.length=49/\zq w' ⟨L+2,0,none⟩ cells/\Ending.returned (.agg cells.toArray) = .returned (.agg (zf (zkk x r)).toArray)/\Bw w w':=fun h0 {Y} hb=>by
  rw [h0];exact zW (zb hb f0) (by omega) ((zst hbX hb)) fun Z fZ bZ=>⟨zf zn,zd _,za fZ,rfl,bZ⟩
 refine⟨exC x q c,zH _ _ _,za fX,hlt fX,zf r,zd _,za fR,hlt fR,cmo (zpM (hv.below hbX) hr (hT.below hbX)) ?_⟩;rintro e Y ⟨rfl,hbY⟩;have bY:=zst hbX hbY;have fY:=zb hbY fX;refine biE (fun h2=>?_) fun h2=>?_
 ·have h2:zbf x r=false:=zft h2;refine⟨zf zn,by kernel_rfl,?_⟩;exact zero (GB fun h=>by rw [h2] at h;cases h) hbY
 ·have h2:zbf x r=true:=zed h2;have h3:=zel h2;have e0:zkk x r=zi5 x r:=GC h2;rw [e0];refine⟨i64 r.n,by have:=zc (za (zb hbY fR)) (i:=0) (v:=i64 r.n) rfl;exact this,?_⟩;have en:zi5 x r=zbr x.ev.length fun a d=>qN r a d&&decide ((evA x a).th=(evA x d).th):=by
   unfold zi5;rw [h3.2.1];rfl
  rw [h3.2.1,en];refine cmo (zln (n:=x.ev.length) (caps := #[At0 (L+1),At0 L]) (g:=148) (p:=fun a d=>qN r a d&&decide ((evA x a).th=(evA x d).th)) (by omega) (by kernel_rfl) fun a d Z ha hd hb=>ztl (zb hb (zb hbY fR)) hr (zb hb fY) ((hv.below bY).below hb) ha hd) ?_;rintro e Z ⟨rfl,hbZ⟩;rw [<- en];exact zW (zb hbZ (zb hbY f0)) (by omega) ((zst bY hbZ)) fun V fV bV=>⟨zf (zi5 x r),zd _,za fV,rfl,bV⟩
end
def sqR (r:RelD):RelD:=ji r.n.toNat fun a=>r.to a|||zaS r.to (r.to a)
def eqR (a b:RelD):Bool:=decide (a.n=b.n)&&(List.range 48).all fun i=>decide (a.to i=b.to i)
def plusF:Nat->RelD->RelD
 | 0,r=>r
 | f+1,r=>if eqR (sqR r) r then r else plusF f (sqR r)
def jl (r:RelD):RelD:=if okR r then plusF 2400 r else zn
def za8 (r:RelD):RelD:=if okR r then (zX (jl r) (idR r.n.toNat (jb r.n))).1 else zn
def ztk (r:RelD):Bool:=okR r&&(List.range r.n.toNat).all fun a => !(r.to a).testBit a
def zhd (e:Ev) (s:Bs):Bool :=
 let rd:=decide (e.k=1);let wr:=decide (e.k=2);let fe:=decide (e.k=3)
 if s=[82] then rd
 else if s=[87] then wr
 else if s=[70] then fe
 else if s=[77] then rd||wr
 else if s=[65] then rd&&(decide (e.m=1)||decide (e.m=3))
 else if s=[76] then wr&&(decide (e.m=2)||decide (e.m=3))
 else if s=[88] then (rd||wr)&&decide (e.m=3)
 else if s=[70,70] then fe&&decide (e.m=3)
 else if s=[70,76] then fe&&decide (e.m=4)
 else if s=[70,83] then fe&&decide (e.m=5)
 else if s=[73] then decide (e.th = -1)
 else false
def znf (x:ExD) (s:Bs):Nat:=orG ((List.range x.ev.length).filter fun i=>match x.ev[i]? with | some e=>zhd e s | none=>false)
def qr (x:ExD):Bs->RelD:=fun s =>
 let n:=x.ev.length
 let cr:=zab n (jb n) (jb n)
 if s=[112,111] then x.po else if s=[114,102] then x.rf else if s=[99,111] then x.co else if s=[114,109,119] then x.rm
 else if s=[100,97,116,97] then x.dt else if s=[99,116,114,108] then x.ct else if s=[102,114] then frX x else if s=[108,111,99] then zkf x
 else if s=[105,100] then idR n (jb n) else if s=[101,120,116] then zku x cr else if s=[105,110,116] then zkk x cr else zn
section
variable (x:ExD) (rels:Bs->RelD)
def un3 (k:UInt8) (a:RelD):RelD:=if k=6 then qp a else if k=7 then jl a else za8 a
def zvb (k:UInt8) (a b:RelD):RelD:=if k=2 then (zX a b).1 else if k=3 then (zaT a b).1 else if k=4 then (zaQ a b).1 else if k=5 then (zbq a b).1 else zn
mutual
def valT:Trm->RelD
 | .mk k nq kids =>
  if k=1 then rels nq
  else if k=9 then idR x.ev.length (znf x nq)
  else if k=6\/k=7\/k=8 then un3 k (valH kids)
  else zvb k (valH kids) (valS kids)
def valH:List Trm->RelD
 | []=>zn
 | t::_=>valT t
def valS:List Trm->RelD
 | []=>zn
 | _::r=>valH r
end
end
def zly (rels:Bs->RelD) (s:Bs) (r:RelD):Bs->RelD:=fun t=>if t=s then r else rels t
def zg3 (x:ExD) (rels:Bs->RelD) (l:List LineD):Bs->RelD:=l.foldl (fun g y=>if y.kind=0 then zly g y.name (valT x g y.term) else g) rels
def zax (t:Trm) (l:List LineD) (x:ExD):Option RelD :=
 match ju l with
 | none=>none
 | some (_,lets) =>
  if (chkT lets 0 t).1&&zY x then
   (if (prT ⟨[],0,0⟩ t).most > 50 then none else some (valT x (zg3 x (qr x) l) t))
  else none
def zdY (x:ExD):(Bs->RelD)->List LineD->Bool×Bs
 | _,[]=>(true,[])
 | g,l::r =>
  let v:=valT x g l.term
  if l.kind=0 then zdY x (zly g l.name v) r
  else if (if l.kind=1 then zjj v else if l.kind=2 then ztk v else zdy v) then zdY x g r
  else (false,l.name)
def zlC (l:List LineD) (x:ExD):Option (Bool×Bs) :=
 if (ju l).isSome&&zY x then some (zdY x (qr x) l) else none
end Go.Proofs.YtnadlhpkpnfmbaaGreatDoor
namespace Go.Vc
open Go.RowKit
section
variable {P:Program} {κ:Type} [DecidableEq κ] {key:κ->Value} {K:TypeId}
theorem qq {T elem:TypeId} (hK:MapK P K key) (hu:P.underlying T=some (.map K elem)) {w:Wd} {r:Nat} {f:κ->Option Value} (h:MapF key w r f) (q:κ) (x:Value) :
  ∃ o,(Instr.mapUpdate T (.map (some r)) (key q) x).run P w = .ok () (w.putObj r o)/\MapF key (w.putObj r o) r (fun q'=>if q'=q then some x else f q'):=by
 obtain⟨es,clock,hh,hf,hn,hb,hc⟩:=h;have hg:(getObj r).run P w = .ok (.map (es.map (entry key)).toArray clock) w:=by simp [getObj,Sem.run,hh]
 have hset:∀ o,(setObj r o).run P w = .ok () (w.putObj r o):=fun o=>by simp [setObj,Sem.run,hh,World.putObj]
 have e:asF es q=f q:=hf q;unfold asF at e;simp only [Instr.mapUpdate,Gd,Uy hu,Qc,hg,hK.check q _ w,zfZ hK q es w]
 cases hfl:zbg q es 0 with
 | none =>
  rw [hfl] at e;simp only [Option.map_none] at e;refine⟨.map ((es++[(q,x,clock)]).map (entry key)).toArray (clock+1),?_,?_⟩
  ·have e2:(es.map (entry key)).toArray.push { key:=key q,val:=x,born:=clock }=((es++[(q,x,clock)]).map (entry key)).toArray:=by
    rw [<- Qg];simp [entry]
   simp only [e2,hset]
  ·refine⟨es++[(q,x,clock)],clock+1,zbe hh,fun q'=>?_,?_,?_,?_⟩
   ·rw [zhv];by_cases hq:q'=q
    ·subst hq;rw [hf q',<- e];simp
    ·simp [hq,hf q']
   ·rw [QV,UI,UQ];refine List.nodup_append.2 ⟨hn,by simp,?_⟩;intro a ha b hb';simp only [KC] at hb';subst hb';obtain⟨y,hy,rfl⟩:=US.1 ha;exact zhj hfl y hy
   ·rw [QV,UI,UQ];refine List.nodup_append.2 ⟨hb,by simp,?_⟩;intro a ha b hb';simp only [KC] at hb';subst hb';obtain⟨y,hy,rfl⟩:=US.1 ha;exact Nat.ne_of_lt (hc y hy)
   ·intro y hy;rw [QW] at hy;rcases hy with hy | hy
    ·exact Nat.lt_succ_of_lt (hc y hy)
    ·simp only [KC] at hy;subst hy;exact QC _
 | some p =>
  obtain⟨j,v⟩:=p;obtain⟨b,_,hj⟩:=zhi hfl;rw [Ga] at hj;have hm:(q,v,b)∈es:=JY hj;have hje:(es.map (entry key)).toArray[j]?=some (entry key (q,v,b)):=by simp [hj]
  have only:∀ i (hi:i<es.length),(es[i]).2.2=b->i=j:=fun i hi hbe=>by
   obtain⟨hjl,e2⟩:=Jq.1 hj;by_cases hij:i=j
   ·exact hij
   ·exfalso
    have h3:=(List.pairwise_iff_getElem.1 hb);rcases Nat.lt_or_gt_of_ne hij with hlt | hlt
    ·exact h3 i j (by simpa using hi) (by simpa using hjl) hlt (by simp [e2,hbe])
    ·exact h3 j i (by simpa using hjl) (by simpa using hi) hlt (by simp [e2,hbe])
  have hbq:∀ y∈es,y.2.2=b->y.1=q:=fun y hy hbe=>by
   obtain⟨i,hi,e1⟩:=Ki hy;have:=only i hi (by rw [e1];exact hbe);subst this;obtain⟨_,e2⟩:=Jq.1 hj;rw [<- e1,e2]
  have hmod:(es.map (entry key)).toArray.modify j (fun e=>{ e with key:=key q,val:=x })=((es.map fun e=>if e.2.2=b then (e.1,x,e.2.2) else e).map (entry key)).toArray:=by
   apply Array.ext_getElem?;intro i;rw [Array.getElem?_modify];by_cases hil:i<es.length
   ·by_cases hij:j=i
    ·subst hij;obtain⟨_,e2⟩:=Jq.1 hj;rw [GC rfl,hje];simp [hil,e2,entry]
    ·rw [GB hij];have:¬ (es[i]).2.2=b:=fun h=>hij (only i hil h).symm;simp [hil,this]
   ·have h1:(es.map (entry key)).toArray[i]?=none:=(by simp;omega);have h2:((es.map fun e=>if e.2.2=b then (e.1,x,e.2.2) else e).map (entry key)).toArray[i]?=none:=(by simp;omega);rw [h1,h2];split <;> rfl
  refine⟨.map ((es.map fun e=>if e.2.2=b then (e.1,x,e.2.2) else e).map (entry key)).toArray clock,?_,?_⟩
  ·simp only [hje,Uh,QG,entry,Instr.keyThatStays,hK.same q,GA,Ge,Qc,Gd];have hmod':=hmod;rw [hmod',hset]
  ·refine⟨_,clock,zbe hh,fun q'=>?_,?_,?_,?_⟩
   ·rw [zmR x q q' es hn ⟨v,hm⟩ hbq,hf q']
   ·have:(es.map fun e=>if e.2.2=b then (e.1,x,e.2.2) else e).map (·.1)=es.map (·.1):=by
     rw [UP];apply Kk;intro e _;simp only [Kf];split <;> rfl
    rw [this];exact hn
   ·have:(es.map fun e=>if e.2.2=b then (e.1,x,e.2.2) else e).map (·.2.2)=es.map (·.2.2):=by
     rw [UP];apply Kk;intro e _;simp only [Kf];split <;> rfl
    rw [this];exact hb
   ·intro e he;obtain⟨y,hy,rfl⟩:=US.1 he
    split
    ·exact hc y hy
    ·exact hc y hy
end
end Go.Vc
namespace Go.Proofs.YtnadlhpkpnfmbaaGreatDoor
open Go.Vc Go.RowKit
abbrev zbn (s:Bs):Value:=zx s
theorem zvc (a b:ByteArray):(a == b)=true↔a=b:=by
 rw [beq_toListBytes,beq_iff_eq,Ke,Ke];constructor
 ·intro h;obtain⟨⟨x⟩⟩:=a;obtain⟨⟨y⟩⟩:=b;exact Gw (fun l:List UInt8=>(⟨⟨l⟩⟩:ByteArray)) h
 ·rintro rfl;rfl
theorem zik (a:Bs):(bs a == bs a)=true:=(zvc _ _).2 rfl
theorem zmz (a b:Bs):(bs a == bs b)=decide (a=b):=by
 by_cases h:a=b
 ·subst h;rw [zik,Ux rfl]
 ·rw [Ul h];exact Bool.eq_false_iff.2 fun e=>h (ztV ((zvc _ _).1 e))
theorem zvS (d:Nat) (x y:Bs) (w:Wd):(Op.equalIn (d+1) 9 (zbn x) (zbn y)).run PG w = .ok (decide (x=y)) w:=by
 simp only [Op.equalIn,Gd,Uy Tryz.underlying9,Qc,Ge,zx];rw [zmz]
theorem zu8 (e:Bool) (d:Nat) (q:Bs) (w:Wd):(Instr.checkKey e (d+1) 9 (zbn q)).run PG w = .ok () w:=by
 simp only [Instr.checkKey,Gd,Uy Tryz.underlying9,Qc,Ge,zx]
theorem zjB:MapK PG 9 zbn where
 check:=fun q e w=>zu8 e 9999 q w
 eq:=fun q q' w=>zvS 9999 q q' w
 same:=fun q=>by simp only [Instr.sameBits,zx];exact zik q
 desc:=⟨_,Tryz.underlying9,fun q q'=>by
  right;simp only [Instr.sameNow,zx];rw [zmz]⟩
end Go.Proofs.YtnadlhpkpnfmbaaGreatDoor
namespace Go.Proofs.YtnadlhpkpnfmbaaGreatDoor
open Go.Vc Go.RowKit Go.Sei
def u8n (n:Nat):Value := .int .u8 (n:Nat)
def zbJ:List Nat:=[0,0,1,2,3,4,0,0,0,0]
def zeR:List Int:=[-1,0,2,2,2,2,1,1,1,0]
def jL:List Bs:=[[],[],[124],[38],[92],[59],[94,45,49],[43],[42],[]]
structure GlobK (w:Wd):Prop where
 op:zq w ⟨3,0,none⟩ (z6.map zx)
 st:zq w ⟨1,0,none⟩ (zbJ.map fun n=>i64 (n:Nat))
 sg:zq w ⟨2,0,none⟩ (jL.map zx)
 nd:zq w ⟨0,0,none⟩ (zeR.map i64)
 lt:3<w.heap.size
theorem GlobK.below {w w2:Wd} (h:GlobK w) (hb:Bw w w2):GlobK w2 :=
 ⟨zz hb h.op,zz hb h.st,zz hb h.sg,zz hb h.nd,nL h.lt hb.size⟩
theorem qT (c k:UInt8):decide ((c.toNat:Int)=(k.toNat:Int))=decide (c=k):=by
 rw [QJ];constructor
 ·intro h;exact Uj.1 (by omega)
 ·rintro rfl;rfl
theorem zd6 {s:Bs} {k:Nat} (h:k<s.length):(bs s).data.toList[k]?=some s[k]:=by
 show s[k]?=_;exact gE h
theorem zgY (c:UInt8) (w:Wd):Calls PG 156 #[u8 c] w fun e w'=>e = .returned (.bool (za0 c))/\w=w':=by
 refine zI 9 [u8 c] Tryz.func156 ?_;refine biE (fun h=>?_) fun h=>?_
 ·have h:(97:Int)<=(c.toNat:Int):=dT h;refine⟨rb ?_,rfl⟩;unfold za0;rw [Ux (p:=97<=c.toNat) (by omega),UD];show decide ((c.toNat:Int)<=122)=_;rw [QJ];omega
 ·have h:¬ (97:Int)<=(c.toNat:Int):=dF h;refine⟨rb ?_,rfl⟩;unfold za0;rw [Ul (p:=97<=c.toNat) (by omega)];rfl
theorem zju (c:UInt8) (w:Wd):Calls PG 160 #[u8 c] w fun e w'=>e = .returned (.bool (jJ c))/\w=w':=by
 refine zI 9 [u8 c] Tryz.func160 ?_;refine biE (fun h=>?_) fun h=>?_
 ·have h:(65:Int)<=(c.toNat:Int):=dT h;refine⟨rb ?_,rfl⟩;unfold jJ;rw [Ux (p:=65<=c.toNat) (by omega),UD];show decide ((c.toNat:Int)<=90)=_;rw [QJ];omega
 ·have h:¬ (65:Int)<=(c.toNat:Int):=dF h;refine⟨rb ?_,rfl⟩;unfold jJ;rw [Ul (p:=65<=c.toNat) (by omega)];rfl
theorem zqh (c:UInt8) (w:Wd):Calls PG 154 #[u8 c] w fun e w'=>e = .returned (.bool (jn c))/\w=w':=by
 refine zI 9 [u8 c] Tryz.func154 ?_;unfold jn;refine biE (fun h=>?_) fun h=>?_
 ·have h:decide (c=32)=true:=(qT c 32).symm.trans h;exact⟨rb (by rw [h];rfl),rfl⟩
 ·have h:decide (c=32)=false:=(qT c 32).symm.trans h;exact⟨rb (by rw [h];exact qT c 9),rfl⟩
theorem zrf (c:UInt8) (w:Wd):Calls PG 155 #[u8 c] w fun e w'=>e = .returned (.bool (zeO c))/\w=w':=by
 refine zI 5 [u8 c] Tryz.func155 ?_;refine⟨rb ?_,rfl⟩;unfold zeO;have:=qT c 10;rw [decide_not,<- this];rfl
theorem zpF (c:UInt8) (w:Wd):Calls PG 157 #[u8 c] w fun e w'=>e = .returned (.bool (qJ c))/\w=w':=by
 refine zI 17 [u8 c] Tryz.func157 ?_;refine cmo (zgY c w) ?_;rintro e _ ⟨rfl,rfl⟩;unfold qJ;refine biE (fun h=>?_) fun h=>?_
 ·have h:za0 c=true:=h;refine brT ?_;exact⟨rb (by rw [h];rfl),rfl⟩
 have h:za0 c=false:=h;rw [h];refine biE (fun h1=>?_) fun h1=>?_
 ·have h1:(48:Int)<=(c.toNat:Int):=dT h1;have e1:decide (48<=c.toNat)=true:=Ux (by omega);rw [e1];refine biE (fun h2=>?_) fun h2=>?_
  ·have h2:(c.toNat:Int)<=57:=dT h2;exact⟨rb (by rw [Ux (p:=c.toNat<=57) (by omega)];rfl),rfl⟩
  ·have h2:¬ (c.toNat:Int)<=57:=dF h2;exact⟨rb (by rw [Ul (p:=c.toNat<=57) (by omega)];exact qT c 45),rfl⟩
 ·have h1:¬ (48:Int)<=(c.toNat:Int):=dF h1;refine brF ?_;exact⟨rb (by rw [Ul (p:=48<=c.toNat) (by omega)];exact qT c 45),rfl⟩
theorem zb5 {p:UInt8->Bool} {s:Bs} {k:Nat} (h:k<s.length):jf p s k=if p s[k] then jf p s (k+1) else k:=by
 unfold jf zbZ;rw [Jo h,Kn]
 split
 ·rw [Qu];omega
 ·rfl
theorem zeE {p:UInt8->Bool} {s:Bs} {k:Nat} (h:s.length<=k):jf p s k=k:=by
 unfold jf zbZ;rw [JA h];rfl
theorem zcJ {p:UInt8->Bool} {s:Bs} {k:Nat} (h:k<=s.length):jf p s k<=s.length:=by
 unfold jf zbZ;have:=(List.takeWhile_sublist p (l:=s.drop k)).length_le;rw [Qv] at this;omega
theorem zjJ {p:UInt8->Bool} {s:Bs} {k:Nat}:k<=jf p s k:=QA _ _
theorem zjI {p:UInt8->Bool} {s:Bs} {k:Nat}:(s.drop k).take (jf p s k-k)=zbZ p s k:=by
 unfold jf;rw [Jw];unfold zbZ;exact (List.prefix_iff_eq_take.1 (List.takeWhile_prefix p)).symm
theorem znk (s:Bs) (a:Nat) (ha:a<=s.length) (hs:s.length<=140737488351232) (w:Wd):Calls PG 153 #[zx s,i64 (a:Nat),.func (.func 154) #[] #[]] w fun e w'=>e = .returned (i64 (jf jn s a:Nat))/\w=w':=by
 refine zI 21 [zx s,i64 (a:Nat),.func (.func 154) #[] #[]] Tryz.func153 ?_;refine⟨Nat,fun k=>⟨[(0,zx s),(1,.int .i64 (k:Nat)),(2,.func (.func 154) #[] #[])],[]⟩,fun k X=>k<=s.length/\jf jn s k=jf jn s a/\w=X,fun k=>s.length-k,a,(cvE rfl rfl),⟨ha,rfl,rfl⟩,?_⟩;rintro k _ ⟨hk,he,rfl⟩;dsimp only at hk he ⊢;refine biE (fun hc=>?_) fun hc=>?_
 ·have hc:(k:Int)<(s.length:Int):=dT hc;have hl:k<s.length:=by omega
  refine⟨k,rfl,hl,s[k],zd6 hl,?_⟩;refine cmo (zqh _ _) ?_;rintro e _ ⟨rfl,rfl⟩;refine biE (fun hi=>?_) fun hi=>?_
  ·have hi:jn s[k]=true:=hi;refine⟨(k+1:Nat),(zi (by omega)).trans (by omega),?_⟩;refine⟨k+1,(cvE rfl rfl),⟨hl,?_,rfl⟩,zdc (by omega)⟩;rw [zb5 hl,GC hi] at he;exact he
  ·have hi:jn s[k]=false:=hi;rw [zb5 hl,GB (by rw [hi];exact Kv)] at he;exact⟨by rw [<- he];rfl,rfl⟩
 ·have hc:¬ (k:Int)<(s.length:Int):=dF hc;refine brF ?_;rw [zeE (by omega)] at he;exact⟨by rw [<- he];rfl,rfl⟩
theorem zoU (s:Bs) (a:Nat) (ha:a<=s.length) (hs:s.length<=140737488351232) (w:Wd):Calls PG 153 #[zx s,i64 (a:Nat),.func (.func 155) #[] #[]] w fun e w'=>e = .returned (i64 (jf zeO s a:Nat))/\w=w':=by
 refine zI 21 [zx s,i64 (a:Nat),.func (.func 155) #[] #[]] Tryz.func153 ?_;refine⟨Nat,fun k=>⟨[(0,zx s),(1,.int .i64 (k:Nat)),(2,.func (.func 155) #[] #[])],[]⟩,fun k X=>k<=s.length/\jf zeO s k=jf zeO s a/\w=X,fun k=>s.length-k,a,(cvE rfl rfl),⟨ha,rfl,rfl⟩,?_⟩;rintro k _ ⟨hk,he,rfl⟩;dsimp only at hk he ⊢;refine biE (fun hc=>?_) fun hc=>?_
 ·have hc:(k:Int)<(s.length:Int):=dT hc;have hl:k<s.length:=by omega
  refine⟨k,rfl,hl,s[k],zd6 hl,?_⟩;refine cmo (zrf _ _) ?_;rintro e _ ⟨rfl,rfl⟩;refine biE (fun hi=>?_) fun hi=>?_
  ·have hi:zeO s[k]=true:=hi;refine⟨(k+1:Nat),(zi (by omega)).trans (by omega),?_⟩;refine⟨k+1,(cvE rfl rfl),⟨hl,?_,rfl⟩,zdc (by omega)⟩;rw [zb5 hl,GC hi] at he;exact he
  ·have hi:zeO s[k]=false:=hi;rw [zb5 hl,GB (by rw [hi];exact Kv)] at he;exact⟨by rw [<- he];rfl,rfl⟩
 ·have hc:¬ (k:Int)<(s.length:Int):=dF hc;refine brF ?_;rw [zeE (by omega)] at he;exact⟨by rw [<- he];rfl,rfl⟩
theorem zhW (s:Bs) (a:Nat) (ha:a<=s.length) (hs:s.length<=140737488351232) (w:Wd):Calls PG 153 #[zx s,i64 (a:Nat),.func (.func 157) #[] #[]] w fun e w'=>e = .returned (i64 (jf qJ s a:Nat))/\w=w':=by
 refine zI 21 [zx s,i64 (a:Nat),.func (.func 157) #[] #[]] Tryz.func153 ?_;refine⟨Nat,fun k=>⟨[(0,zx s),(1,.int .i64 (k:Nat)),(2,.func (.func 157) #[] #[])],[]⟩,fun k X=>k<=s.length/\jf qJ s k=jf qJ s a/\w=X,fun k=>s.length-k,a,(cvE rfl rfl),⟨ha,rfl,rfl⟩,?_⟩;rintro k _ ⟨hk,he,rfl⟩;dsimp only at hk he ⊢;refine biE (fun hc=>?_) fun hc=>?_
 ·have hc:(k:Int)<(s.length:Int):=dT hc;have hl:k<s.length:=by omega
  refine⟨k,rfl,hl,s[k],zd6 hl,?_⟩;refine cmo (zpF _ _) ?_;rintro e _ ⟨rfl,rfl⟩;refine biE (fun hi=>?_) fun hi=>?_
  ·have hi:qJ s[k]=true:=hi;refine⟨(k+1:Nat),(zi (by omega)).trans (by omega),?_⟩;refine⟨k+1,(cvE rfl rfl),⟨hl,?_,rfl⟩,zdc (by omega)⟩;rw [zb5 hl,GC hi] at he;exact he
  ·have hi:qJ s[k]=false:=hi;rw [zb5 hl,GB (by rw [hi];exact Kv)] at he;exact⟨by rw [<- he];rfl,rfl⟩
 ·have hc:¬ (k:Int)<(s.length:Int):=dF hc;refine brF ?_;rw [zeE (by omega)] at he;exact⟨by rw [<- he];rfl,rfl⟩
theorem znj (s:Bs) (a:Nat) (ha:a<=s.length) (hs:s.length<=140737488351232) (w:Wd):Calls PG 153 #[zx s,i64 (a:Nat),.func (.func 160) #[] #[]] w fun e w'=>e = .returned (i64 (jf jJ s a:Nat))/\w=w':=by
 refine zI 21 [zx s,i64 (a:Nat),.func (.func 160) #[] #[]] Tryz.func153 ?_;refine⟨Nat,fun k=>⟨[(0,zx s),(1,.int .i64 (k:Nat)),(2,.func (.func 160) #[] #[])],[]⟩,fun k X=>k<=s.length/\jf jJ s k=jf jJ s a/\w=X,fun k=>s.length-k,a,(cvE rfl rfl),⟨ha,rfl,rfl⟩,?_⟩;rintro k _ ⟨hk,he,rfl⟩;dsimp only at hk he ⊢;refine biE (fun hc=>?_) fun hc=>?_
 ·have hc:(k:Int)<(s.length:Int):=dT hc;have hl:k<s.length:=by omega
  refine⟨k,rfl,hl,s[k],zd6 hl,?_⟩;refine cmo (zju _ _) ?_;rintro e _ ⟨rfl,rfl⟩;refine biE (fun hi=>?_) fun hi=>?_
  ·have hi:jJ s[k]=true:=hi;refine⟨(k+1:Nat),(zi (by omega)).trans (by omega),?_⟩;refine⟨k+1,(cvE rfl rfl),⟨hl,?_,rfl⟩,zdc (by omega)⟩;rw [zb5 hl,GC hi] at he;exact he
  ·have hi:jJ s[k]=false:=hi;rw [zb5 hl,GB (by rw [hi];exact Kv)] at he;exact⟨by rw [<- he];rfl,rfl⟩
 ·have hc:¬ (k:Int)<(s.length:Int):=dF hc;refine brF ?_;rw [zeE (by omega)] at he;exact⟨by rw [<- he];rfl,rfl⟩
theorem zpv (s:Bs):zbs s<=4:=by
 have:=List.findIdx_le_length (xs:=z6) (p:=fun w=>decide (w=s));exact this
def zds (s:Bs):Int:=if zbs s<4 then (zbs s:Nat) else -1
theorem zpw {s:Bs} {k:Nat} (hk:k<z6.length) (h:z6[k]=s) (hno:∀ j (hj:j<z6.length),j<k->z6[j]≠s):zbs s=k:=by
 unfold zbs;have h2:z6.findIdx (fun w=>decide (w=s))<=k:=by
  refine Nat.le_of_not_lt fun hlt2=>?_;have:=List.not_of_lt_findIdx hlt2;simp [h] at this
 have h3:z6.findIdx (fun w=>decide (w=s))<z6.length:=KG h2 hk;have h4:z6[z6.findIdx (fun w=>decide (w=s))]=s:=by
  have:=List.findIdx_getElem (w:=h3);exact dT this
 rcases Nat.lt_or_ge (z6.findIdx (fun w=>decide (w=s))) k with h5 | h5
 ·exact GD h4 (hno _ h3 h5)
 ·omega
theorem zkh (s:Bs) (w:Wd) (hg:GlobK w):Calls PG 106 #[zx s] w fun e w'=>e = .returned (i64 (zds s))/\w=w':=by
 refine zI 15 [zx s] Tryz.func106 ?_;refine⟨z6.map zx,rfl,hg.op,hg.lt,?_⟩;refine⟨Nat,fun k=>⟨[(0,zx s),(5,.agg (z6.map zx).toArray),(6,.int .i64 (k:Nat))],[]⟩,fun k V=>k<=4/\(∀ j (hj:j<z6.length),j<k->z6[j]≠s)/\w=V,fun k=>4-k,0,
  (cvE rfl rfl),⟨Gj _,fun _ _ h=>GD h (by omega),rfl⟩,?_⟩
 rintro k _ ⟨hk,hno,rfl⟩;refine biE (fun h=>?_) fun h=>?_
 ·have h:(k:Int)<4:=dT h;have hkl:k<z6.length:=by show k<4;omega
  refine⟨k,rfl,by omega,?_⟩;have hget:(z6.map zx)[k*1]?=some (zx z6[k]):=by
   rw [Gi,KW,gE hkl];rfl
  refine zbc hget ?_;refine⟨_,fun w=>zF _ _ z6[k] s w,?_⟩;refine biE (fun h1=>?_) fun h1=>?_
  ·have h1:z6[k]=s:=dT h1;have hi:=zpw hkl h1 hno;refine Gs ?_ rfl;unfold zds;rw [hi,GC (by omega)];rfl
  ·have h1:¬ z6[k]=s:=dF h1;refine⟨(k+1:Nat),(zi (by omega)).trans (by omega),?_⟩;refine⟨k+1,(cvE rfl rfl),⟨by omega,fun j hj hjk=>?_,rfl⟩,by dsimp only;omega⟩;by_cases e:j=k
   ·subst e;exact h1
   ·exact hno j hj (by omega)
 ·have h:¬ (k:Int)<4:=dF h;have hi:¬ zbs s<4:=fun h3=>by
   have h3:z6.findIdx (fun w=>decide (w=s))<z6.length:=h3;have h4:z6[z6.findIdx (fun w=>decide (w=s))]=s:=dT (List.findIdx_getElem (w:=h3));exact hno _ h3 (by have:z6.length=4:=rfl;omega) h4
  refine Gs ?_ rfl;unfold zds;rw [GB hi];rfl
theorem znM (s:Bs):decide ((0:Int)<=zds s)=decide (zbs s<4):=by
 unfold zds;rw [QJ]
 split <;> omega
theorem zmB (s:Bs) (w:Wd) (hg:GlobK w):Calls PG 158 #[zx s] w fun e w'=>e = .returned (.bool (znN s))/\w=w':=by
 refine zI 10 [zx s] Tryz.func158 ?_;unfold znN;refine⟨_,fun w=>zF _ _ s [97,115] w,?_⟩;refine biE (fun h=>?_) fun h=>?_
 ·have h:decide (s=[97,115])=true:=h;exact⟨rb (by rw [h];rfl),rfl⟩
 ·have h:decide (s=[97,115])=false:=h;rw [h];refine cmo (zkh s w hg) ?_;rintro e _ ⟨rfl,rfl⟩;exact⟨rb (znM s),rfl⟩
theorem qC {s w:Bs} (h:decide (s=w)=false):decide (w=s)=false:=Ul fun e=>dF h e.symm
theorem zgn (s:Bs) (w:Wd):Calls PG 93 #[zx s] w fun e w'=>e = .returned (.bool (j7 s))/\w=w':=by
 refine zI 16 [zx s] Tryz.func93 ?_;refine⟨_,fun w=>zF _ _ s [112,111] w,?_⟩;refine biE (fun h0=>?_) fun h0=>?_
 ·refine brE h0 ?_;have e:s=[112,111]:=dT h0;exact⟨rb (by rw [e];rfl),rfl⟩
 refine⟨_,fun w=>zF _ _ s [114,102] w,?_⟩;refine biE (fun h1=>?_) fun h1=>?_
 ·refine brE h1 ?_;have e:s=[114,102]:=dT h1;exact⟨rb (by rw [e];rfl),rfl⟩
 refine⟨_,fun w=>zF _ _ s [99,111] w,?_⟩;refine biE (fun h2=>?_) fun h2=>?_
 ·refine brE h2 ?_;have e:s=[99,111]:=dT h2;exact⟨rb (by rw [e];rfl),rfl⟩
 refine⟨_,fun w=>zF _ _ s [102,114] w,?_⟩;refine biE (fun h3=>?_) fun h3=>?_
 ·refine brE h3 ?_;have e:s=[102,114]:=dT h3;exact⟨rb (by rw [e];rfl),rfl⟩
 refine⟨_,fun w=>zF _ _ s [114,109,119] w,?_⟩;refine biE (fun h4=>?_) fun h4=>?_
 ·refine brE h4 ?_;have e:s=[114,109,119]:=dT h4;exact⟨rb (by rw [e];rfl),rfl⟩
 refine⟨_,fun w=>zF _ _ s [100,97,116,97] w,?_⟩;refine biE (fun h5=>?_) fun h5=>?_
 ·refine brE h5 ?_;have e:s=[100,97,116,97]:=dT h5;exact⟨rb (by rw [e];rfl),rfl⟩
 refine⟨_,fun w=>zF _ _ s [99,116,114,108] w,?_⟩;refine biE (fun h6=>?_) fun h6=>?_
 ·refine brE h6 ?_;have e:s=[99,116,114,108]:=dT h6;exact⟨rb (by rw [e];rfl),rfl⟩
 refine⟨_,fun w=>zF _ _ s [108,111,99] w,?_⟩;refine biE (fun h7=>?_) fun h7=>?_
 ·refine brE h7 ?_;have e:s=[108,111,99]:=dT h7;exact⟨rb (by rw [e];rfl),rfl⟩
 refine⟨_,fun w=>zF _ _ s [105,100] w,?_⟩;refine biE (fun h8=>?_) fun h8=>?_
 ·refine brE h8 ?_;have e:s=[105,100]:=dT h8;exact⟨rb (by rw [e];rfl),rfl⟩
 refine⟨_,fun w=>zF _ _ s [101,120,116] w,?_⟩;refine biE (fun h9=>?_) fun h9=>?_
 ·refine brE h9 ?_;have e:s=[101,120,116]:=dT h9;exact⟨rb (by rw [e];rfl),rfl⟩
 refine⟨_,fun w=>zF _ _ s [105,110,116] w,?_⟩;refine biE (fun h10=>?_) fun h10=>?_
 ·have e:s=[105,110,116]:=dT h10;exact⟨rb (by rw [e];rfl),rfl⟩
 refine⟨rb ?_,rfl⟩;unfold j7;simp only [UH,List.any_nil,qC h0,qC h1,qC h2,qC h3,qC h4,qC h5,qC h6,qC h7,qC h8,qC h9,qC h10,UC]
theorem zmA (s:Bs) (w:Wd):Calls PG 94 #[zx s] w fun e w'=>e = .returned (.bool (zhE s))/\w=w':=by
 refine zI 16 [zx s] Tryz.func94 ?_;refine⟨_,fun w=>zF _ _ s [82] w,?_⟩;refine biE (fun h0=>?_) fun h0=>?_
 ·refine brE h0 ?_;have e:s=[82]:=dT h0;exact⟨rb (by rw [e];rfl),rfl⟩
 refine⟨_,fun w=>zF _ _ s [87] w,?_⟩;refine biE (fun h1=>?_) fun h1=>?_
 ·refine brE h1 ?_;have e:s=[87]:=dT h1;exact⟨rb (by rw [e];rfl),rfl⟩
 refine⟨_,fun w=>zF _ _ s [70] w,?_⟩;refine biE (fun h2=>?_) fun h2=>?_
 ·refine brE h2 ?_;have e:s=[70]:=dT h2;exact⟨rb (by rw [e];rfl),rfl⟩
 refine⟨_,fun w=>zF _ _ s [77] w,?_⟩;refine biE (fun h3=>?_) fun h3=>?_
 ·refine brE h3 ?_;have e:s=[77]:=dT h3;exact⟨rb (by rw [e];rfl),rfl⟩
 refine⟨_,fun w=>zF _ _ s [65] w,?_⟩;refine biE (fun h4=>?_) fun h4=>?_
 ·refine brE h4 ?_;have e:s=[65]:=dT h4;exact⟨rb (by rw [e];rfl),rfl⟩
 refine⟨_,fun w=>zF _ _ s [76] w,?_⟩;refine biE (fun h5=>?_) fun h5=>?_
 ·refine brE h5 ?_;have e:s=[76]:=dT h5;exact⟨rb (by rw [e];rfl),rfl⟩
 refine⟨_,fun w=>zF _ _ s [88] w,?_⟩;refine biE (fun h6=>?_) fun h6=>?_
 ·refine brE h6 ?_;have e:s=[88]:=dT h6;exact⟨rb (by rw [e];rfl),rfl⟩
 refine⟨_,fun w=>zF _ _ s [70,70] w,?_⟩;refine biE (fun h7=>?_) fun h7=>?_
 ·refine brE h7 ?_;have e:s=[70,70]:=dT h7;exact⟨rb (by rw [e];rfl),rfl⟩
 refine⟨_,fun w=>zF _ _ s [70,76] w,?_⟩;refine biE (fun h8=>?_) fun h8=>?_
 ·refine brE h8 ?_;have e:s=[70,76]:=dT h8;exact⟨rb (by rw [e];rfl),rfl⟩
 refine⟨_,fun w=>zF _ _ s [70,83] w,?_⟩;refine biE (fun h9=>?_) fun h9=>?_
 ·refine brE h9 ?_;have e:s=[70,83]:=dT h9;exact⟨rb (by rw [e];rfl),rfl⟩
 refine⟨_,fun w=>zF _ _ s [73] w,?_⟩;refine biE (fun h10=>?_) fun h10=>?_
 ·have e:s=[73]:=dT h10;exact⟨rb (by rw [e];rfl),rfl⟩
 refine⟨rb ?_,rfl⟩;unfold zhE;simp only [UH,List.any_nil,qC h0,qC h1,qC h2,qC h3,qC h4,qC h5,qC h6,qC h7,qC h8,qC h9,qC h10,UC]
def qf (t:Tk):List Value:=[u8n t.kind,zx t.text,i64 (t.at_:Nat)]
theorem zjD (k:Nat) (t:Bs) (a:Nat) (w:Wd):CB 159 #[u8n k,zx t,i64 (a:Nat)] w (.agg (qf (zap k t a)).toArray):=by
 refine zI 16 [u8n k,zx t,i64 (a:Nat)] Tryz.func159 ?_;have f0:=zt w (.cells #[.int .u8 0,zx [],i64 0] 134);have b0:Bw w (w.alloc (.cells #[.int .u8 0,zx [],i64 0] 134)):=zba w _;have fin:∀ {T:Tk} {K:Wd->Prop},(∀ Y,Bw w Y->Y.heap[w.heap.size]?=some (.cells (qf T).toArray 134 (0,0))->K Y)->SatR ((storeVar 134 ⟨w.heap.size,0,none⟩ (.agg (qf T).toArray)).run PG (w.alloc (.cells #[.int .u8 0,zx [],i64 0] 134))) fun _ w'=>K w' :=
  fun {T K} k=>zr ztj f0 rfl rfl rfl (k _ (zk b0 (Gh _) _) (zm f0))
 refine biE (fun h=>?_) fun h=>?_
 ·have h:(16:Int)<(t.length:Int):=dT h;have e1:zap k t a=⟨0,[],a⟩:=by unfold zap;rw [GC (by omega)]
  rw [e1];refine⟨qf ⟨0,[],a⟩,rfl,?_⟩;refine fin (T:=⟨0,[],a⟩) fun Y hb f=>?_;exact⟨qf ⟨0,[],a⟩,rfl,za f,rfl,hb⟩
 ·have h:¬ (16:Int)<(t.length:Int):=dF h;have e1:zap k t a=⟨k,t,a⟩:=by unfold zap;rw [GB (by omega)]
  rw [e1];refine⟨qf ⟨k,t,a⟩,rfl,?_⟩;refine fin (T:=⟨k,t,a⟩) fun Y hb f=>?_;exact⟨qf ⟨k,t,a⟩,rfl,za f,rfl,hb⟩
end Go.Proofs.YtnadlhpkpnfmbaaGreatDoor
namespace Go.Proofs
open Go.Shelf
def Tryz.lays137_ren:Go.Shelf.Ren:=⟨fun | 137=>161 | 217=>204 | 266=>235 | n=>n,fun | 9=>9 | 5=>5 | 3=>3 | n=>n,fun | n=>n⟩
theorem Tryz.lays137:Go.Proofs.Lays.n137 PG Tryz.lays137_ren:={
 mixed:=by kernel_rfl
 f137:=Tryz.func161.trans (Gw some (by kernel_rfl))
 f217:=Tryz.func204.trans (Gw some (by kernel_rfl))
 f266:=Tryz.func235.trans (Gw some (by kernel_rfl))
 t3:=Tryz.underlying3
 a3:=Tryz.isAgg3
 z3:=Tryz.sizeOf3
 v3:=Tryz.zeroValue3
 t5:=Tryz.underlying5
 a5:=Tryz.isAgg5
 z5:=Tryz.sizeOf5
 v5:=Tryz.zeroValue5
 t9:=Tryz.underlying9
 a9:=Tryz.isAgg9
 z9:=Tryz.sizeOf9
 v9:=Tryz.zeroValue9 }
open Go.RowKit in
theorem Tryz.strings_IndexByte (s:ByteArray) (c:Int) (w:Wd) :
  Calls PG 161 #[.string s,.int .u8 c] w fun e w'=>e = .returned (.int .i64 (Lib.indexByte s.data.toList c.toNat.toUInt8))∧w'=w:=Any.strings_IndexByte Tryz.lays137 s c w
def Tryz.lays99_ren:Go.Shelf.Ren:=⟨fun | 99=>73 | 206=>124 | n=>n,fun | 9=>9 | 4=>4 | 3=>3 | n=>n,fun | n=>n⟩
theorem Tryz.lays99:Go.Proofs.Lays.n99 PG Tryz.lays99_ren:={
 mixed:=by kernel_rfl
 f99:=Tryz.func73.trans (Gw some (by kernel_rfl))
 f206:=Tryz.func124.trans (Gw some (by kernel_rfl))
 t3:=Tryz.underlying3
 a3:=Tryz.isAgg3
 z3:=Tryz.sizeOf3
 v3:=Tryz.zeroValue3
 t4:=Tryz.underlying4
 a4:=Tryz.isAgg4
 z4:=Tryz.sizeOf4
 v4:=Tryz.zeroValue4
 t9:=Tryz.underlying9
 a9:=Tryz.isAgg9
 z9:=Tryz.sizeOf9
 v9:=Tryz.zeroValue9 }
open Go.RowKit Go.Lib in
theorem Tryz.strings_HasPrefix (s p:ByteArray) (w:Wd) :
  Calls PG 73 #[.string s,.string p] w fun e w'=>e = .returned (.bool (Lib.hasPrefix s.data.toList p.data.toList))∧w'=w:=Any.strings_HasPrefix Tryz.lays99 s p w
end Go.Proofs
namespace Go.Proofs.YtnadlhpkpnfmbaaGreatDoor
open Go.Vc Go.RowKit Go.Sei
theorem zpH (l:Bs) (c:UInt8):decide ((0:Int)<=Lib.indexByte l c)=decide (c∈l):=by
 have low:∀ l:Bs,-1<=Lib.indexByte l c:=fun l=>by
  induction l with
  | nil=>exact Int.le_refl _
  | cons b r ih =>
   unfold Lib.indexByte
   split
   ·omega
   ·split <;> omega
 rw [QJ]
 induction l with
 | nil=>exact⟨fun h=>GD h (by unfold Lib.indexByte;decide),fun h=>by cases h⟩
 | cons b r ih =>
  unfold Lib.indexByte;by_cases hb:b=c
  ·subst hb;rw [GC (by simp)];exact⟨fun _=>KB,fun _=>Int.le_refl _⟩
  ·rw [GB (by simpa using hb)];have hl:=low r;by_cases h1:Lib.indexByte r c = -1
   ·rw [GC (by simpa using h1)];refine⟨fun h=>GD h (by decide),fun h=>?_⟩;rcases UJ.1 h with h | h
    ·exact GD h.symm hb
    ·have:=ih.2 h;omega
   ·rw [GB (by simpa using h1)];refine⟨fun _=>JW _ (ih.1 (by omega)),fun _=>by omega⟩
theorem zvv (s:Bs) (a:Nat):Lib.hasPrefix (s.drop a) [94,45,49]=decide ((s.drop a).take 3=[94,45,49]):=by
 unfold Lib.hasPrefix;rw [Bool.eq_iff_iff,List.isPrefixOf_iff_prefix,dE,List.prefix_iff_eq_take];exact eq_comm
theorem zmc {s:Bs} {a:Nat} (h:a<=s.length):zdh s a<=s.length:=by
 unfold zdh
 split
 ·exact zcJ (zcJ h)
 ·exact zcJ h
theorem zqS {s:Bs} {a:Nat} (h:a<=s.length):(zaG s a).at_+(zaG s a).text.length<=s.length:=by
 have sh:∀ {k:Nat} {t:Bs} {a:Nat},a+t.length<=s.length->(zap k t a).at_+(zap k t a).text.length<=s.length:=fun {k t a} h=>by
  unfold zap
  split
  ·show a+0<=_;omega
  ·exact h
 have rl:∀ {p:UInt8->Bool},a+(zbZ p s a).length<=s.length:=fun {p}=>zcJ h;unfold zaG
 split
 ·exact h
 ·rename_i c hc;have hl:=(Jq.1 hc).1
  split
  ·show a+1<=_;omega
  ·split
   ·split
    ·exact rl
    ·exact sh rl
   ·split
    ·exact sh rl
    ·split
     ·show a+1<=_;omega
     ·split
      ·rename_i h3;have:=Gw List.length h3;rw [Qw,Qv] at this;show a+3<=_;simp at this;omega
      ·exact h
theorem zoT {s:Bs} {a:Nat} (h:a<=s.length):(zD s a).at_+(zD s a).text.length<=s.length:=zqS (zmc h)
theorem zgs (s:Bs) (a b:Nat):(bs s).extract a b=bs ((s.drop a).take (b-a)):=by
 have:((bs s).extract a b).data.toList=(s.drop a).take (b-a):=by
  simp [bs]
 have h2:(bs ((s.drop a).take (b-a))).data.toList=(s.drop a).take (b-a):=rfl;exact Gw (fun l:List UInt8=>(⟨⟨l⟩⟩:ByteArray)) (this.trans h2.symm)
section
variable {s:Bs} {a:Nat} {w:Wd}
theorem zqY (hg:GlobK w) (ha:a<=s.length) (hs:s.length<=140737488351232):CB 105 #[zx s,i64 (a:Nat)] w (.agg (qf (zD s a)).toArray):=by
 refine zU 90 [zx s,i64 (a:Nat)] (.c .p (.s .p (.c .p .p))) Tryz.func105 ?_;refine⟨Unit,fun _=>⟨[(0,zx s),(1,i64 (a:Nat)),(4,At0 w.heap.size)],[]⟩,fun _ X=>X.heap[w.heap.size]?=some (.cells #[.int .u8 0,zx [],i64 0] 134 (0,0))/\Bw w X,⟨(),(cvE rfl rfl),zt w _,zba _ _⟩,?_⟩;rintro _ X ⟨f0,b0⟩;have gX:=hg.below b0;refine cmo (znk s a ha hs X) ?_;rintro e _ ⟨rfl,rfl⟩;have h1:=zcJ (p:=jn) ha;obtain⟨k,hk⟩:=nm (zdh s a);have hkl:k<=s.length:=by rw [hk];exact zmc ha
 refine⟨Unit,fun _=>⟨[(0,zx s),(1,i64 (k:Nat)),(4,.pointer (some ⟨w.heap.size,0,none⟩))],[]⟩,fun _ Y=>X=Y,?_,?_⟩
 ·have no:∀ {n:Nat},n=jf jn s a->s[n]?≠some 35->n=k:=fun {n} e h=>by
   rw [hk,e];unfold zdh;rw [GB (by rw [<- e];exact h)]
  refine biE (fun hc=>?_) fun hc=>?_
  ·have hc:(jf jn s a:Int)<(s.length:Int):=dT hc;have hl:jf jn s a<s.length:=by omega
   refine⟨jf jn s a,rfl,hl,s[jf jn s a],zd6 hl,biE (fun h2=>?_) fun h2=>?_⟩
   ·have h2:s[jf jn s a]=35:=dT ((qT _ 35).symm.trans h2);refine cmo (zoU s (jf jn s a) h1 hs X) ?_;rintro e _ ⟨rfl,rfl⟩;have e:jf zeO s (jf jn s a)=k:=by
     rw [hk];unfold zdh;rw [GC (by rw [gE hl,h2])]
    exact⟨(),⟨.cons rfl (.cons (Gw (fun n:Nat=>some (i64 (n:Nat))) e) (.cons rfl .nil)),rfl⟩,rfl⟩
   ·have h2:s[jf jn s a]≠35:=dF ((qT _ 35).symm.trans h2);have e:=no rfl (by rw [gE hl];intro e;exact h2 (Ui e));exact⟨(),⟨.cons rfl (.cons (Gw (fun n:Nat=>some (i64 (n:Nat))) e) (.cons rfl .nil)),rfl⟩,rfl⟩
  ·have hc:¬ (jf jn s a:Int)<(s.length:Int):=dF hc;refine brF ?_;have e:=no rfl (by rw [JJ (by omega)];exact fun h=>by cases h);exact⟨(),⟨.cons rfl (.cons (Gw (fun n:Nat=>some (i64 (n:Nat))) e) (.cons rfl .nil)),rfl⟩,rfl⟩
 rintro _ _ rfl;have es:zD s a=zaG s k:=by rw [hk];rfl
 rw [es];clear es hk h1;have fin:∀ {T:Tk} {Z:Wd} {K:Wd->Prop},Bw X Z->(∀ Y,Bw w Y->Y.heap[w.heap.size]?=some (.cells (qf T).toArray 134 (0,0))->K Y)->SatR ((storeVar 134 ⟨w.heap.size,0,none⟩ (.agg (qf T).toArray)).run PG Z) fun _ w'=>K w' :=
  fun {T Z K} hb k=>zr ztj (zb hb f0) rfl rfl rfl (k _ (zk ((zst b0 hb)) (Gh _) _) (zm (zb hb f0)))
 have out:∀ {T:Tk} {Y:Wd},Bw w Y->Y.heap[w.heap.size]?=some (.cells (qf T).toArray 134 (0,0))->T=zaG s k->∃ us:List Value,us.length=3/\zq Y ⟨w.heap.size,0,none⟩ us/\Ending.returned (jT [.agg us.toArray]) = .returned (.agg (qf (zaG s k)).toArray)/\Bw w Y :=
  fun {T Y} hb f e=>⟨qf T,rfl,za f,by rw [e];rfl,hb⟩
 refine biE (fun hc=>?_) fun hc=>?_
 ·have hc:(k:Int)=(s.length:Int):=dT hc;refine⟨qf ⟨1,[],k⟩,rfl,fin (T:=⟨1,[],k⟩) (Gm _ _) fun Y hb f=>out hb f ?_⟩;unfold zaG;rw [JJ (by omega)]
 have hc:¬ (k:Int)=(s.length:Int):=dF hc;have hl:k<s.length:=by omega
 refine⟨k,rfl,hl,s[k],zd6 hl,?_⟩;obtain⟨c,hcc⟩:=nm (s[k]);rw [<- hcc];have ek:s[k]?=some c:=by rw [gE hl,hcc]
 have ew:((k+1:Nat):Int)=(k:Int)+1:=by omega
 have cut1:(s.drop k).take 1=[c]:=by rw [Jo hl,hcc];rfl
 have hcut1:(bs s).extract k (k+1)=bs [c]:=by rw [zgs,Jw,cut1]
 refine biE (fun h10=>?_) fun h10=>?_
 ·have h10:c=10:=dT ((qT c 10).symm.trans h10);have e:zaG s k=⟨2,[c],k⟩:=by unfold zaG;rw [ek];simp only [GC h10]
  refine⟨(k+1:Nat),(zi (by omega)).trans ew.symm,k+1,rfl,hl,k,rfl,by omega,?_⟩;refine⟨qf ⟨2,[c],k⟩,by rw [hcut1];rfl,?_⟩;exact fin (T:=⟨2,[c],k⟩) (Gm _ _) fun Y hb f=>out hb f e.symm
 have h10:c≠10:=dF ((qT c 10).symm.trans h10);refine cmo (zgY c X) ?_;rintro e _ ⟨rfl,rfl⟩;refine biE (fun hlo=>?_) fun hlo=>?_
 ·have hlo:za0 c=true:=hlo;refine cmo (zhW s k hkl hs X) ?_;rintro e _ ⟨rfl,rfl⟩;have hr:=zcJ (p:=qJ) hkl;refine⟨jf qJ s k,rfl,hr,k,rfl,zjJ,?_⟩;have hcut:zx (zbZ qJ s k) = .string ((bs s).extract k (jf qJ s k)):=by rw [zgs,zjI];rfl
  have hik:=zmB (zbZ qJ s k) X gX;rw [hcut] at hik;refine cmo hik ?_;rintro e _ ⟨rfl,rfl⟩;refine biE (fun hk=>?_) fun hk=>?_
  ·have hk:znN (zbZ qJ s k)=true:=hk;refine⟨qf ⟨3,zbZ qJ s k,k⟩,by rw [<- hcut];rfl,?_⟩;refine fin (T:=⟨3,zbZ qJ s k,k⟩) (Gm _ _) fun Y hb f=>out hb f ?_;unfold zaG;rw [ek];simp only [GB h10,GC hlo,GC hk]
  ·have hk:znN (zbZ qJ s k)=false:=hk;have hsh:=zjD 4 (zbZ qJ s k) k X;rw [hcut] at hsh;refine cmo hsh ?_;rintro e Z ⟨rfl,hbZ⟩;refine fin (T:=zap 4 (zbZ qJ s k) k) hbZ fun Y hb f=>out hb f ?_;unfold zaG;rw [ek];simp only [GB h10,GC hlo,hk,Ku,Gx]
 have hlo:za0 c=false:=hlo;refine cmo (zju c X) ?_;rintro e _ ⟨rfl,rfl⟩;refine biE (fun hup=>?_) fun hup=>?_
 ·have hup:jJ c=true:=hup;refine cmo (znj s k hkl hs X) ?_;rintro e _ ⟨rfl,rfl⟩;have hr:=zcJ (p:=jJ) hkl;refine⟨jf jJ s k,rfl,hr,k,rfl,zjJ,?_⟩;have hcut:zx (zbZ jJ s k) = .string ((bs s).extract k (jf jJ s k)):=by rw [zgs,zjI];rfl
  have hsh:=zjD 5 (zbZ jJ s k) k X;rw [hcut] at hsh;refine cmo hsh ?_;rintro e Z ⟨rfl,hbZ⟩;refine fin (T:=zap 5 (zbZ jJ s k) k) hbZ fun Y hb f=>out hb f ?_;unfold zaG;rw [ek];simp only [GB h10,hlo,hup,Ku,Gx,GA]
 have hup:jJ c=false:=hup;refine cmo (Tryz.strings_IndexByte (bs zjC) (c.toNat:Int) X) ?_;rintro e X' ⟨rfl,hx'⟩;have hx':=hx'.symm;subst hx';have ec:((c.toNat:Int).toNat.toUInt8)=c:=by rw [KN];exact UInt8.ofNat_toNat
 rw [ec];have em:=zpH zjC c;refine biE (fun hsg=>?_) fun hsg=>?_
 ·have hsg:c∈zjC:=dT (em.symm.trans hsg);have e:zaG s k=⟨6,[c],k⟩:=by unfold zaG;rw [ek];simp only [GB h10,hlo,hup,Ku,Gx,GC hsg]
  refine⟨(k+1:Nat),(zi (by omega)).trans ew.symm,k+1,rfl,hl,k,rfl,by omega,?_⟩;refine⟨qf ⟨6,[c],k⟩,by rw [hcut1];rfl,?_⟩;exact fin (T:=⟨6,[c],k⟩) (Gm _ _) fun Y hb f=>out hb f e.symm
 have hsg:c ∉ zjC:=dF (em.symm.trans hsg);refine⟨k,rfl,hkl,cmo (Tryz.strings_HasPrefix ((bs s).extract k (bs s).size) (bs [94,45,49]) X) ?_⟩;rintro e X' ⟨rfl,hx'⟩;have hx':=hx'.symm;subst hx';have ep:Lib.hasPrefix ((bs s).extract k (bs s).size).data.toList (bs [94,45,49]).data.toList=decide ((s.drop k).take 3=[94,45,49]):=by
  rw [<- zvv,zgs];show Lib.hasPrefix ((s.drop k).take (s.length-k)) _=_;rw [JE (by rw [Qv];omega)];rfl
 rw [ep];refine biE (fun hp=>?_) fun hp=>?_
 ·have hp:(s.drop k).take 3=[94,45,49]:=dT hp;refine⟨qf ⟨6,[94,45,49],k⟩,rfl,fin (T:=⟨6,[94,45,49],k⟩) (Gm _ _) fun Y hb f=>out hb f ?_⟩;unfold zaG;rw [ek];simp only [GB h10,hlo,hup,Ku,Gx,GB hsg,GC hp]
 ·have hp:¬ (s.drop k).take 3=[94,45,49]:=dF hp;refine⟨qf ⟨0,[],k⟩,rfl,fin (T:=⟨0,[],k⟩) (Gm _ _) fun Y hb f=>out hb f ?_⟩;unfold zaG;rw [ek];simp only [GB h10,hlo,hup,Ku,Gx,GB hsg,GB hp]
end
def ze (t:Trm) (p:OA) (cap:Nat):List Value:=[u8 t.kind,zx t.name,.slice p t.kids.length cap]
inductive KidsT (Q:Nat->Prop) (w:Wd):OA->List Trm->Prop
 | mk (p:OA) (kids:List Trm) (hn:kids.length<=140737488351232) (b o:Nat) (hp:kids.length=0\/p=some ⟨b,o,none⟩) (q:Nat->OA) (c:Nat->Nat)
   (hk:∀ i (h:i<kids.length),kids[i].name.length<=140737488351232/\Q b/\zq w ⟨b,o+i*3,none⟩ (ze kids[i] (q i) (c i)))
   (ht:∀ i (h:i<kids.length),KidsT Q w (q i) kids[i].kids):KidsT Q w p kids
section
variable {Q Q':Nat->Prop} {w w2:Wd} {p:OA} {kids:List Trm}
theorem KidsT.inv (h:KidsT Q w p kids):kids.length<=140737488351232/\∃ b o,(kids.length=0\/p=some ⟨b,o,none⟩) /\
  ∀ i (h:i<kids.length),∃ q c,kids[i].name.length<=140737488351232/\Q b/\zq w ⟨b,o+i*3,none⟩ (ze kids[i] q c)/\KidsT Q w q kids[i].kids:=by
 cases h with
 | mk _ _ hn b o hp q c hk ht=>exact⟨hn,b,o,hp,fun i hi=>⟨q i,c i,(hk i hi).1,(hk i hi).2.1,(hk i hi).2.2,ht i hi⟩⟩
theorem KidsT.by (hs:∀ (g:Nat) (cs:Array Value) (t:TypeId) (fr:Nat×Nat),Q g->w.heap[g]?=some (.cells cs t fr)->w2.heap[g]?=w.heap[g]?) (h:KidsT Q w p kids):KidsT Q w2 p kids:=by
 induction h with
 | mk p kids hn b o hp q c hk ht ih =>
  refine .mk p kids hn b o hp q c (fun i hi=>⟨(hk i hi).1,(hk i hi).2.1,?_⟩) ih;obtain⟨_,hB,hc⟩:=hk i hi;have h0:=hc 0 _ rfl;unfold World.cell? at h0
  split at h0
  ·rename_i cs t fr hb;exact zL (hs b cs t fr hB hb) hc
  ·cases h0
theorem KidsT.kept (h:KidsT Q w p kids) (hb:Bw w w2):KidsT Q w2 p kids:=h.by fun g cs t fr _ hc=>hb.block g (hlt hc)
theorem KidsT.weak (h:KidsT Q w p kids) (hb:∀ b,Q b->Q' b):KidsT Q' w p kids:=by
 induction h with
 | mk p kids hn b o hp q c hk ht ih=>exact .mk p kids hn b o hp q c (fun i hi=>⟨(hk i hi).1,hb _ (hk i hi).2.1,(hk i hi).2.2⟩) ih
theorem KidsT.there (h:KidsT Q w p kids):KidsT (fun b=>Q b/\b<w.heap.size) w p kids:=by
 induction h with
 | mk p kids hn b o hp q c hk ht ih =>
  refine .mk p kids hn b o hp q c (fun i hi=>⟨(hk i hi).1,⟨(hk i hi).2.1,?_⟩,(hk i hi).2.2⟩) ih;have h0:=(hk i hi).2.2 0 _ rfl;unfold World.cell? at h0
  split at h0
  ·rename_i hb;exact hlt hb
  ·cases h0
theorem KidsT.nil:KidsT Q w p [] := .mk p [] (by decide) 0 0 (.inl rfl) (fun _=>none) (fun _=>0) (fun i hi=>by simp at hi) (fun i hi=>by simp at hi)
end
def zef (f:Bs->Bool):Bs->Option Value:=fun t=>if f t then some (.bool true) else none
def zbQ (s:Bs) (l c:Nat) (st:PS):List Value:=[zx s,u8n st.tok.kind,zx st.tok.text,i64 (st.tok.at_:Nat),.map (some l),.map (some c),i64 (st.nodes:Nat),i64 (st.deep:Nat),i64 st.e]
structure ParB (g l c:Nat) (s:Bs) (st:PS) (w:Wd):Prop where
 f:w.heap[g]?=some (.cells (zbQ s l c st).toArray 136 (0,0))
 lm:MapF zbn w l (zef st.lets)
 cm:MapF zbn w c (zef st.checks)
 ord:3<l/\l<c/\c<g
 glob:GlobK w
 len:s.length<=8192
 pos:st.tok.at_+st.tok.text.length<=s.length
 nod:st.nodes<=400
 dep:st.deep<=50
theorem jN {κ:Type} [DecidableEq κ] {key:κ->Value} {w:Wd} {r:Nat} {f:κ->Option Value} (h:MapF key w r f):r<w.heap.size:=by
 obtain⟨_,_,h,_⟩:=h;exact hlt h
theorem zjn {T:TypeId} {v:Value} (h:(Tryz.prog.info? T).bind (fun i=>i.zero)=some v) (w:Wd):(zeroValue T).run PG w = .ok v w:=by
 cases hi:Tryz.prog.info? T with
 | none=>rw [hi] at h;cases h
 | some inf =>
  rw [hi] at h;have h:inf.zero=some v:=h;simp [zeroValue,typeInfo,hi,h]
section
variable {g l c:Nat} {s:Bs} {st st':PS} {w w2:Wd}
theorem ParB.lt (h:ParB g l c s st w):g<w.heap.size:=hlt h.f
theorem GlobK.grown (h:GlobK w) (hg:3<g) (hb:w.grownBy w2 (some g)):GlobK w2:=by
 have sm:∀ j,j<=3->w2.heap[j]?=w.heap[j]?:=fun j hj=>hb.block j (by have:=h.lt;omega) (by simp;omega);exact⟨zL (sm _ (by decide)) h.op,zL (sm _ (by decide)) h.st,zL (sm _ (by decide)) h.sg,zL (sm _ (by decide)) h.nd,nL h.lt hb.size⟩
theorem ParB.below (h:ParB g l c s st w) (hb:Bw w w2):ParB g l c s st w2 :=
 ⟨zb hb h.f,h.lm.below hb,h.cm.below hb,h.ord,h.glob.below hb,h.len,h.pos,h.nod,h.dep⟩
theorem ParB.put (h:ParB g l c s st w) (hb:w.grownBy w2 (some g)) (hf:w2.heap[g]?=some (.cells (zbQ s l c st').toArray 136 (0,0))) (e1:st'.lets=st.lets) (e2:st'.checks=st.checks)
  (hp:st'.tok.at_+st'.tok.text.length<=s.length) (hn:st'.nodes<=400) (hd:st'.deep<=50):ParB g l c s st' w2:=by
 have o:=h.ord;refine⟨hf,?_,?_,o,h.glob.grown (by omega) hb,h.len,hp,hn,hd⟩
 ·rw [e1];exact h.lm.same (hb.block l (jN h.lm) (by simp;omega))
 ·rw [e2];exact h.cm.same (hb.block c (jN h.cm) (by simp;omega))
theorem ParB.tok (h:ParB g l c s st w) {t:Tk} (ht:t.at_+t.text.length<=s.length) {K:Wd->Prop} (k:∀ Y,ParB g l c s { st with tok:=t } Y->w.grownBy Y (some g)->K Y) :
  SatR ((storeVar 134 ⟨g,1,none⟩ (.agg (qf t).toArray)).run PG w) fun _ w'=>K w' :=
 jt ztj h.f (o:=1) (v := .agg (qf t).toArray) rfl (by show 1+3<=9;decide) rfl fun Y fY gY _=>k Y (h.put gY fY rfl rfl ht h.nod h.dep) gY
theorem ParB.nodes (h:ParB g l c s st w) {n:Nat} (hn:n<=400) {K:Wd->Prop} (k:∀ Y,ParB g l c s { st with nodes:=n } Y->w.grownBy Y (some g)->K Y) :
  SatR ((storeVar 3 ⟨g,6,none⟩ (i64 (n:Nat))).run PG w) fun _ w'=>K w' :=
 zw k3 h.f (o:=6) (v:=i64 (n:Nat)) rfl rfl (by show 6<9;decide) rfl fun Y fY gY _=>k Y (h.put gY fY rfl rfl h.pos hn h.dep) gY
theorem ParB.deep (h:ParB g l c s st w) {n:Nat} (hn:n<=50) {K:Wd->Prop} (k:∀ Y,ParB g l c s { st with deep:=n } Y->w.grownBy Y (some g)->K Y) :
  SatR ((storeVar 3 ⟨g,7,none⟩ (i64 (n:Nat))).run PG w) fun _ w'=>K w' :=
 zw k3 h.f (o:=7) (v:=i64 (n:Nat)) rfl rfl (by show 7<9;decide) rfl fun Y fY gY _=>k Y (h.put gY fY rfl rfl h.pos h.nod hn) gY
theorem ParB.err (h:ParB g l c s st w) {n:Int} {K:Wd->Prop} (k:∀ Y,ParB g l c s { st with e:=n } Y->w.grownBy Y (some g)->K Y) :
  SatR ((storeVar 42 ⟨g,8,none⟩ (i64 n)).run PG w) fun _ w'=>K w' :=
 zw k42 h.f (o:=8) (v:=i64 n) rfl rfl (by show 8<9;decide) rfl fun Y fY gY _=>k Y (h.put gY fY rfl rfl h.pos h.nod h.dep) gY
abbrev nx (s:Bs) (st:PS):PS:=zav (zD s) st
theorem zbw (h:ParB g l c s st w):Calls PG 66 #[At0 g] w fun e w'=>e = .returned (jT [])/\ParB g l c s (nx s st) w'/\w.grownBy w' (some g):=by
 refine zI 22 [At0 g] Tryz.func66 ?_;refine DrawE.ord [20] [0,1,2,3,4,5,6,7,8,9,10,11,12,13,14,15,16,17,18,19,20] (by kernel_rfl) ?_;have h1:ParB g l c s st w.drew:=h.below (Gm _ w).drew;have hl:=h.len;have hp:=h.pos;refine⟨_,zc (za h1.f) (i:=0) rfl,_,zc (za h1.f) (i:=3) rfl,_,zc (za h1.f) (i:=2) rfl,((st.tok.at_+st.tok.text.length:Nat):Int),(zi (a:=(st.tok.at_:Int)+(st.tok.text.length:Int)) (by omega)).trans (by omega),cmo (zqY (s:=s) (a:=st.tok.at_+st.tok.text.length) h1.glob hp (by omega)) ?_⟩;rintro e X ⟨rfl,hbX⟩;refine⟨hbX,?_⟩;have hX:=h1.below hbX;exact hX.tok (zoT hp) fun Y hY gY=>⟨rfl,hY,zg (zh ((Gm _ w).drew.trans hbX)) gY⟩
theorem jC (h:ParB g l c s st w) (n:Int):Calls PG 107 #[At0 g,i64 n] w fun e w'=>e = .returned (.bool false)/\ParB g l c s (zaw n st) w'/\w.grownBy w' (some g):=by
 refine zI 9 [At0 g,i64 n] Tryz.func107 ?_;exact h.err fun Y hY gY=>⟨rfl,hY,gY⟩
theorem zP {a b:Nat}:decide ((a:Int)=(b:Int))=decide (a=b):=by rw [QJ];omega
theorem zru (h:ParB g l c s st w) (t:Bs):Calls PG 206 #[At0 g,zx t] w fun e w'=>e = .returned (.bool (isP st t))/\w=w':=by
 refine zI 20 [At0 g,zx t] Tryz.func206 ?_;unfold isP;refine⟨_,zc (za h.f) (i:=1) rfl,biE (fun h1=>?_) fun h1=>?_⟩
 ·have h1:decide (st.tok.kind=6)=true:=(zP (b:=6)).symm.trans h1;exact⟨_,zc (za h.f) (i:=2) rfl,_,fun w=>zF _ _ st.tok.text t w,rb (by rw [h1];rfl),rfl⟩
 ·have h1:decide (st.tok.kind=6)=false:=(zP (b:=6)).symm.trans h1;exact⟨rb (by rw [h1];rfl),rfl⟩
theorem zcA (h:ParB g l c s st w) (k:Nat) (t:Bs):Calls PG 110 #[At0 g,u8n k,zx t] w fun e w'=>e = .returned (.bool (qc (zD s) k t st).1)/\ParB g l c s (qc (zD s) k t st).2 w'/\w.grownBy w' (some g):=by
 refine zI 27 [At0 g,u8n k,zx t] Tryz.func110 ?_;refine⟨_,zc (za h.f) (i:=1) rfl,?_⟩;have bad:(st.tok.kind≠k\/st.tok.text≠t)->Calls PG 107 #[At0 g,i64 110] w fun e w'=>e = .returned (.bool (qc (zD s) k t st).1)/\ParB g l c s (qc (zD s) k t st).2 w'/\w.grownBy w' (some g):=fun hb=>by
  have e:qc (zD s) k t st=(false,zaw 110 st):=by unfold qc;rw [GC hb]
  rw [e];exact jC h 110
 refine biE (fun h1=>?_) fun h1=>?_
 ·have h1:(!decide ((st.tok.kind:Int)=(k:Int)))=true:=h1;rw [zP] at h1;refine brT (cmo (bad (.inl (by simpa using h1))) ?_);rintro e Y ⟨rfl,hY,gY⟩;exact⟨rfl,hY,gY⟩
 have h1:(!decide ((st.tok.kind:Int)=(k:Int)))=false:=h1;rw [zP] at h1;have h1:st.tok.kind=k:=by simpa using h1
 refine⟨_,zc (za h.f) (i:=2) rfl,_,fun w=>zeQ _ _ st.tok.text t w,biE (fun h2=>?_) fun h2=>?_⟩
 ·have h2:(!decide (st.tok.text=t))=true:=h2;refine cmo (bad (.inr (by simpa using h2))) ?_;rintro e Y ⟨rfl,hY,gY⟩;exact⟨rfl,hY,gY⟩
 ·have h2:(!decide (st.tok.text=t))=false:=h2;have h2:st.tok.text=t:=by simpa using h2
  have e:qc (zD s) k t st=(true,nx s st):=by unfold qc;rw [GB (by rintro (h | h);exact h h1;exact h h2)]
  rw [e];refine cmo (zbw h) ?_;rintro e Y ⟨rfl,hY,gY⟩;exact⟨rfl,hY,gY⟩
theorem zgS (h:ParB g l c s st w):Calls PG 164 #[At0 g] w fun e w'=>e = .returned (.bool (zal (zD s) st).1)/\ParB g l c s (zal (zD s) st).2 w'/\w.grownBy w' (some g):=by
 refine zI 19 [At0 g] Tryz.func164 ?_;have hn:=h.nod;refine⟨_,zc (za h.f) (i:=6) rfl,biE (fun h1=>?_) fun h1=>?_⟩
 ·have h1:(400:Int)<=(st.nodes:Int):=dT h1;have e:zal (zD s) st=(false,zaw 5 st):=by unfold zal;rw [GC (by omega)]
  rw [e];refine cmo (jC h 5) ?_;rintro e Y ⟨rfl,hY,gY⟩;exact⟨rfl,hY,gY⟩
 ·have h1:¬ (400:Int)<=(st.nodes:Int):=dF h1;have e:zal (zD s) st=(true,nx s { st with nodes:=st.nodes+1 }):=by unfold zal;rw [GB (by omega)]
  rw [e];refine⟨_,zc (za h.f) (i:=6) rfl,((st.nodes+1:Nat):Int),(zi (by omega)).trans (by omega),h.nodes (n:=st.nodes+1) (by omega) fun Y hY gY=>cmo (zbw hY) ?_⟩;rintro e Z ⟨rfl,hZ,gZ⟩;exact⟨rfl,hZ,zg gY gZ⟩
theorem zdr {w:Wd} {r:Nat} {f:Bs->Bool} (h:MapF zbn w r (zef f)) (t:Bs):(Instr.lookup 105 (.map (some r)) (zx t) false).run PG w = .ok (.bool (f t)) w:=by
 have:=zgZ zjB Tryz.underlying105 (z := .bool false) (zjn (by kernel_rfl)) h t false;refine this.trans ?_;unfold zef
 cases f t <;> rfl
end
theorem zjp {n:Nat} (h:n<=255):IntKind.u8.wrap (n:Int)=(n:Int):=by
 unfold IntKind.wrap;simp only [IntKind.bits,IntKind.signed,Un,Ku,Gx];omega
section
variable {g l c pb:Nat} {s:Bs} {st:PS} {w:Wd}
theorem zqN (h:ParB g l c s st w) (hp:w.heap[pb]?=some (.cells #[At0 g] 132 (0,0))) (t:Bs):Calls PG 109 #[zx t,At0 pb] w fun e w'=>e = .returned (.bool (j7 t||st.lets t))/\w=w':=by
 refine zI 14 [zx t,At0 pb] Tryz.func109 ?_;refine cmo (zgn t w) ?_;rintro e _ ⟨rfl,rfl⟩;refine biE (fun h1=>?_) fun h1=>?_
 ·have h1:j7 t=true:=h1;exact⟨rb (by rw [h1];rfl),rfl⟩
 ·have h1:j7 t=false:=h1;rw [h1];exact⟨_,zc (za hp) (i:=0) rfl,_,zc (za h.f) (i:=4) rfl,_,fun w2 hb=>zdr (h.lm.below hb) t,rfl,rfl⟩
theorem zqM (h:ParB g l c s st w) (hp:w.heap[pb]?=some (.cells #[At0 g] 132 (0,0))) (t:Bs):Calls PG 112 #[zx t,At0 pb] w fun e w'=>e = .returned (.bool (st.checks t))/\w=w':=by
 refine zI 10 [zx t,At0 pb] Tryz.func112 ?_;exact⟨_,zc (za hp) (i:=0) rfl,_,zc (za h.f) (i:=5) rfl,_,fun w2 hb=>zdr (h.cm.below hb) t,rfl,rfl⟩
theorem zlv (h:ParB g l c s st w) (hp:w.heap[pb]?=some (.cells #[At0 g] 132 (0,0))):Calls PG 108 #[At0 g,.func (.func 109) #[] #[At0 pb]] w fun e w'=>e = .returned (.tuple #[zx ((jG (zD s) (fun t=>j7 t||st.lets t) st).1.getD []),.bool (jG (zD s) (fun t=>j7 t||st.lets t) st).1.isSome])/\ParB g l c s (jG (zD s) (fun t=>j7 t||st.lets t) st).2 w'/\w.grownBy w' (some g):=by
 refine zI 28 [At0 g,.func (.func 109) #[] #[At0 pb]] Tryz.func108 ?_;refine⟨_,zc (za h.f) (i:=2) rfl,_,zc (za h.f) (i:=1) rfl,biE (fun h1=>?_) fun h1=>?_⟩
 ·have h1:(!decide ((st.tok.kind:Int)=((4:Nat):Int)))=true:=h1;rw [zP] at h1;have h1:st.tok.kind≠4:=by simpa using h1
  have e:jG (zD s) (fun t=>j7 t||st.lets t) st=(none,zaw 110 st):=by unfold jG;rw [GC h1]
  rw [e];refine cmo (jC h 110) ?_;rintro e Y ⟨rfl,hY,gY⟩;exact⟨rfl,hY,gY⟩
 have h1:(!decide ((st.tok.kind:Int)=((4:Nat):Int)))=false:=h1;rw [zP] at h1;have h1:st.tok.kind=4:=by simpa using h1
 refine cmo (zqN h hp st.tok.text) ?_;rintro e _ ⟨rfl,rfl⟩;refine biE (fun h2=>?_) fun h2=>?_
 ·have h2:((fun t=>j7 t||st.lets t) st.tok.text)=true:=h2;have e:jG (zD s) (fun t=>j7 t||st.lets t) st=(none,zaw 111 st):=by unfold jG;rw [GB (by rw [h1];decide),GC h2]
  rw [e];refine cmo (jC h 111) ?_;rintro e Y ⟨rfl,hY,gY⟩;exact⟨rfl,hY,gY⟩
 ·have h2:((fun t=>j7 t||st.lets t) st.tok.text)=false:=h2;have e:jG (zD s) (fun t=>j7 t||st.lets t) st=(some st.tok.text,nx s st):=by unfold jG;rw [GB (by rw [h1];decide),GB (by rw [h2];exact Kv)]
  rw [e];refine cmo (zbw h) ?_;rintro e Y ⟨rfl,hY,gY⟩;exact⟨rfl,hY,gY⟩
theorem zlu (h:ParB g l c s st w) (hp:w.heap[pb]?=some (.cells #[At0 g] 132 (0,0))):Calls PG 108 #[At0 g,.func (.func 112) #[] #[At0 pb]] w fun e w'=>e = .returned (.tuple #[zx ((jG (zD s) st.checks st).1.getD []),.bool (jG (zD s) st.checks st).1.isSome])/\ParB g l c s (jG (zD s) st.checks st).2 w'/\w.grownBy w' (some g):=by
 refine zI 28 [At0 g,.func (.func 112) #[] #[At0 pb]] Tryz.func108 ?_;refine⟨_,zc (za h.f) (i:=2) rfl,_,zc (za h.f) (i:=1) rfl,biE (fun h1=>?_) fun h1=>?_⟩
 ·have h1:(!decide ((st.tok.kind:Int)=((4:Nat):Int)))=true:=h1;rw [zP] at h1;have h1:st.tok.kind≠4:=by simpa using h1
  have e:jG (zD s) st.checks st=(none,zaw 110 st):=by unfold jG;rw [GC h1]
  rw [e];refine cmo (jC h 110) ?_;rintro e Y ⟨rfl,hY,gY⟩;exact⟨rfl,hY,gY⟩
 have h1:(!decide ((st.tok.kind:Int)=((4:Nat):Int)))=false:=h1;rw [zP] at h1;have h1:st.tok.kind=4:=by simpa using h1
 refine cmo (zqM h hp st.tok.text) ?_;rintro e _ ⟨rfl,rfl⟩;refine biE (fun h2=>?_) fun h2=>?_
 ·have h2:(st.checks st.tok.text)=true:=h2;have e:jG (zD s) st.checks st=(none,zaw 111 st):=by unfold jG;rw [GB (by rw [h1];decide),GC h2]
  rw [e];refine cmo (jC h 111) ?_;rintro e Y ⟨rfl,hY,gY⟩;exact⟨rfl,hY,gY⟩
 ·have h2:(st.checks st.tok.text)=false:=h2;have e:jG (zD s) st.checks st=(some st.tok.text,nx s st):=by unfold jG;rw [GB (by rw [h1];decide),GB (by rw [h2];exact Kv)]
  rw [e];refine cmo (zbw h) ?_;rintro e Y ⟨rfl,hY,gY⟩;exact⟨rfl,hY,gY⟩
theorem za7 (hg:GlobK w) {k:Nat} (hk:k<10):w.cell? ⟨1,0+k,none⟩=some (i64 (zbJ.getD k 0:Nat)):=by
 refine zc hg.st ?_;have hk:k<zbJ.length:=hk;rw [KW,gE hk,gDe,gE hk];rfl
theorem zgd (hg:GlobK w) {k:Nat} (hk:k<10):w.cell? ⟨2,0+k,none⟩=some (zx (jL.getD k [])):=by
 refine zc hg.sg ?_;have hk:k<jL.length:=hk;rw [KW,gE hk,gDe,gE hk];rfl
def zvI (st:PS) (k:Nat):Prop:=(2<k->isP st [124]=false)/\(3<k->isP st [38]=false)/\(4<k->isP st [92]=false)/\(5<k->isP st [59]=false)
theorem zlp (h:ParB g l c s st w):Calls PG 163 #[At0 g] w fun e w'=>e = .returned (u8n (qm st))/\w=w':=by
 refine zI 22 [At0 g] Tryz.func163 ?_;have hg:=h.glob;have hlt:=hg.lt;refine⟨zbJ.map (fun n=>i64 (n:Nat)),rfl,hg.st,nL (by decide) (Nat.succ_le_of_lt hg.lt),?_⟩;refine⟨Nat,fun k=>⟨[(0,At0 g),(5,.agg (zbJ.map (fun n=>i64 (n:Nat))).toArray),(6,.int .i64 (k:Nat))],[]⟩,fun k V=>k<=10/\zvI st k/\w=V,fun k=>10-k,0,
  (cvE rfl rfl),⟨Gj _,⟨fun h=>GD h (by decide),fun h=>GD h (by decide),fun h=>GD h (by decide),fun h=>GD h (by decide)⟩,rfl⟩,?_⟩
 rintro k _ ⟨hk,hno,rfl⟩;refine biE (fun h1=>?_) fun h1=>?_
 ·have h1:(k:Int)<10:=dT h1;have hkl:k<zbJ.length:=by show k<10;omega
  refine⟨k,rfl,by omega,?_⟩;have hget:(zbJ.map fun n=>i64 (n:Nat))[k*1]?=some (i64 (zbJ.getD k 0:Nat)):=by
   rw [Gi,KW,gE hkl,gDe,gE hkl];rfl
  refine zbc hget (biE (fun h2=>?_) fun h2=>?_)
  ·have h2:(0:Int)<((zbJ.getD k 0:Nat):Int):=dT h2;refine⟨k,rfl,by omega,?_⟩;refine⟨_,by rw [Gi];exact zgd hg (by omega),cmo (zru h (jL.getD k [])) ?_⟩;rintro e _ ⟨rfl,rfl⟩;obtain⟨n2,n3,n4,n5⟩:=hno;have cases5:k=2\/k=3\/k=4\/k=5:=by
    have:∀ j:Fin 10,0<zbJ.getD j.1 0->j.1=2\/j.1=3\/j.1=4\/j.1=5:=(by decide);exact this ⟨k,by omega⟩ (by show 0<zbJ.getD k 0;omega)
   refine biE (fun h3=>?_) fun h3=>?_
   ·have h3:isP st (jL.getD k [])=true:=h3;refine⟨(k:Int),zjp (by omega),?_,rfl⟩;have e:qm st=k:=by
     unfold qm;rcases cases5 with rfl | rfl | rfl | rfl
     ·rw [GC (show isP st [124]=true from h3)]
     ·rw [GB (by rw [n2 (by decide)];decide),GC (show isP st [38]=true from h3)]
     ·rw [GB (by rw [n2 (by decide)];decide),GB (by rw [n3 (by decide)];decide),GC (show isP st [92]=true from h3)]
     ·rw [GB (by rw [n2 (by decide)];decide),GB (by rw [n3 (by decide)];decide),GB (by rw [n4 (by decide)];decide),GC (show isP st [59]=true from h3)]
    rw [e];rfl
   ·have h3:isP st (jL.getD k [])=false:=h3;refine nxI (by omega) ⟨k+1,(cvE rfl rfl),⟨by omega,?_,rfl⟩,by dsimp only;omega⟩;refine⟨fun h=>?_,fun h=>?_,fun h=>?_,fun h=>?_⟩
    ·rcases cases5 with rfl | rfl | rfl | rfl
     ·exact h3
     all_goals exact n2 (by decide)
    ·rcases cases5 with rfl | rfl | rfl | rfl
     ·exact GD h (by decide)
     ·exact h3
     all_goals exact n3 (by decide)
    ·rcases cases5 with rfl | rfl | rfl | rfl
     ·exact GD h (by decide)
     ·exact GD h (by decide)
     ·exact h3
     ·exact n4 (by decide)
    ·rcases cases5 with rfl | rfl | rfl | rfl
     ·exact GD h (by decide)
     ·exact GD h (by decide)
     ·exact GD h (by decide)
     ·exact h3
  ·have h2:¬ (0:Int)<((zbJ.getD k 0:Nat):Int):=dF h2;refine brF (nxI (by omega) ⟨k+1,(cvE rfl rfl),⟨by omega,?_,rfl⟩,by dsimp only;omega⟩);have no5:k≠2/\k≠3/\k≠4/\k≠5:=by
    have:∀ j:Fin 10,¬ 0<zbJ.getD j.1 0->j.1≠2/\j.1≠3/\j.1≠4/\j.1≠5:=(by decide);exact this ⟨k,by omega⟩ (by show ¬ 0<zbJ.getD k 0;omega)
   obtain⟨n2,n3,n4,n5⟩:=hno;exact⟨fun h=>n2 (by omega),fun h=>n3 (by omega),fun h=>n4 (by omega),fun h=>n5 (by omega)⟩
 ·have h1:¬ (k:Int)<10:=dF h1;obtain⟨n2,n3,n4,n5⟩:=hno;refine⟨?_,rfl⟩;have e:qm st=0:=by
   unfold qm;rw [GB (by rw [n2 (by omega)];decide),GB (by rw [n3 (by omega)];decide),GB (by rw [n4 (by omega)];decide),GB (by rw [n5 (by omega)];decide)]
  rw [e];rfl
end
end Go.Proofs.YtnadlhpkpnfmbaaGreatDoor
namespace Go.Proofs.YtnadlhpkpnfmbaaGreatDoor
open Go.Vc
def GdT (k:Nat) (t:Tk):Prop:=t.at_<=k/\t.kind≠1/\(t.kind≠0->t.at_+t.text.length<=k)
def Sm {α:Type} (m:Nat) (st:PS) (r r':α×PS):Prop:=st.tok.at_<=r.2.tok.at_/\(r.2.tok.at_<=m->r'=r)
section
variable {sc sc':Nat->Tk} {m:Nat}
theorem Sm.same {α:Type} {st:PS} {r:α×PS} (h:r.2.tok=st.tok):Sm m st r r:=⟨by rw [h];exact Gh _,fun _=>rfl⟩
theorem Sm.eq {α:Type} {st st1:PS} {a:α} {r r':α×PS} (h:Sm m st r r') (e:r=(a,st1)):st.tok.at_<=st1.tok.at_/\(st1.tok.at_<=m->r'=(a,st1)):=by
 subst e;exact h
variable (Mo:∀ a,a<=(sc a).at_) (Sa:∀ a,(sc a).at_<=m->sc' a=sc a)
include Mo Sa
end
section
variable {p:UInt8->Bool}
theorem zlc (s:Bs) (a:Nat):a<=jf p s a:=QA _ _
end
theorem zqU (s:Bs) (a:Nat):a<=zdh s a:=by
 unfold zdh
 split
 ·exact UX (zlc (p:=jn) s a) (zlc s _)
 ·exact zlc s a
theorem zoN (k:Nat) (t:Bs) (a:Nat):(zap k t a).at_=a:=by unfold zap;split <;> rfl
theorem zsQ (s:Bs) (a:Nat):(zaG s a).at_=a:=by
 unfold zaG
 split
 ·rfl
 ·repeat' split
  all_goals first | rfl | exact zoN _ _ _
theorem znh (s:Bs) (a:Nat):a<=(zD s a).at_:=by
 unfold zD;rw [zsQ];exact zqU s a
def wordB (c:UInt8):Bool:=za0 c||jJ c||(decide (48<=c.toNat)&&decide (c.toNat<=57))||decide (c=45)||decide (c=94)
section
variable {s:Bs}
def MoS (s:Bs) (a b:PS):Prop:=a.tok.at_<=b.tok.at_/\b.deep=a.deep/\(b.tok=a.tok\/∃ i,b.tok=zD s i)
theorem MoS.refl (a:PS):MoS s a a:=⟨Gh _,rfl,.inl rfl⟩
theorem MoS.trans {a b c:PS} (h:MoS s a b) (k:MoS s b c):MoS s a c:=⟨UX h.1 k.1,k.2.1.trans h.2.1,by
 rcases k.2.2 with e | e
 ·rw [e];exact h.2.2
 ·exact .inr e⟩
theorem zj4 (s:Bs) (st:PS):st.tok.at_+st.tok.text.length<=(zav (zD s) st).tok.at_:=znh s _
theorem zdK (st:PS):MoS s st (zav (zD s) st):=⟨UX (QA _ _) (zj4 s st),rfl,.inr ⟨_,rfl⟩⟩
theorem zgk (st:PS):MoS s st (zal (zD s) st).2:=by
 unfold zal
 split
 ·exact .refl _
 ·exact zdK { st with nodes:=st.nodes+1 }
theorem zbC (k:Nat) (t:Bs) (st:PS):MoS s st (qc (zD s) k t st).2:=by
 unfold qc
 split
 ·exact .refl _
 ·exact zdK st
theorem zbx:∀ f,(∀ least st,MoS s st (termP (zD s) f least st).2)/\(∀ least t st,MoS s st (moreP (zD s) f least t st).2) /\
  (∀ st,MoS s st (tightP (zD s) f st).2)/\(∀ t st,MoS s st (postsP (zD s) f t st).2)/\(∀ st,MoS s st (simpleP (zD s) f st).2)
 | 0=>by
  refine⟨?_,?_,?_,?_,?_⟩ <;> intros <;> simp only [termP,moreP,tightP,postsP,simpleP] <;> exact .refl _
 | f+1=>by
  obtain⟨h1,h2,h3,h4,h5⟩:=zbx f;refine⟨fun least st=>?_,fun least t st=>?_,fun st=>?_,fun t st=>?_,fun st=>?_⟩
  ·rw [termP];have:=h3 st
   split <;> rename_i e <;> rw [e] at this
   ·exact this
   ·exact this.trans (h2 _ _ _)
  ·rw [moreP]
   split
   ·exact .refl _
   ·have hn:=zgk (s:=s) st
    split <;> rename_i e <;> rw [e] at hn
    ·exact hn
    ·have:=h1 (qm st) ‹PS›
     split <;> rename_i e2 <;> rw [e2] at this
     ·exact hn.trans this
     ·exact hn.trans (this.trans (h2 _ _ _))
  ·rw [tightP];have:=h5 st
   split <;> rename_i e <;> rw [e] at this
   ·exact this
   ·exact this.trans (h4 _ _)
  ·rw [postsP]
   split
   ·exact .refl _
   ·have hn:=zgk (s:=s) st
    split <;> rename_i e <;> rw [e] at hn
    ·exact hn
    ·exact hn.trans (h4 _ _)
  ·rw [simpleP]
   split
   ·split
    ·exact .refl _
    ·have hn:=zgk (s:=s) st
     split <;> rename_i e <;> rw [e] at hn <;> exact hn
   ·split
    ·have hn:=zgk (s:=s) st
     split <;> rename_i e <;> rw [e] at hn
     ·exact hn
     ·split
      ·exact hn
      ·split
       ·exact hn
       ·rename_i st2 _ _;have hx:=zbC (s:=s) 6 [93] (zav (zD s) st2);have hm:=hn.trans (zdK (s:=s) st2)
        split <;> rename_i e2 <;> rw [e2] at hx <;> exact hm.trans hx
    ·split
     ·have ha:=zdK (s:=s) { st with deep:=st.deep+1 };have hn:=h1 1 (zav (zD s) { st with deep:=st.deep+1 })
      split <;> rename_i st2 e <;> rw [e] at hn
      ·exact⟨UX ha.1 hn.1,by show st2.deep-1=st.deep;have e1:st2.deep=st.deep+1:=hn.2.1.trans ha.2.1;omega,(ha.trans hn).2.2⟩
      ·have hx:=zbC (s:=s) 6 [41] { st2 with deep:=st2.deep-1 };have hm:MoS s st { st2 with deep:=st2.deep-1 }:=⟨UX ha.1 hn.1,by show st2.deep-1=st.deep;have e1:st2.deep=st.deep+1:=hn.2.1.trans ha.2.1;omega,(ha.trans hn).2.2⟩
       split <;> rename_i e2 <;> rw [e2] at hx <;> exact hm.trans hx
     ·exact .refl _
theorem zgl (used:Bs->Bool) (st:PS):MoS s st (jG (zD s) used st).2:=by
 unfold jG
 split
 ·exact .refl _
 ·split
  ·exact .refl _
  ·exact zdK st
theorem ziZ (l:LineD) (st:PS):MoS s st (znX l st).2:=by
 unfold znX
 split <;> exact .refl _
theorem ziY {a b:PS} (h:MoS s a b) {f:Bs->Bool}:MoS s a { b with lets:=f }:=h
theorem zfA {a b:PS} (h:MoS s a b) {f:Bs->Bool}:MoS s a { b with checks:=f }:=h
theorem zrh (f many:Nat) (st:PS):MoS s st (zbS (zD s) f many st).2:=by
 unfold zbS
 split
 ·exact .refl _
 ·split
  ·exact .refl _
  ·have h0:=zdK (s:=s) st
   split
   ·have h1:=zgl (s:=s) (fun t=>j7 t||st.lets t) (zav (zD s) st)
    split <;> rename_i e <;> rw [e] at h1
    ·exact h0.trans h1
    ·rename_i nq st2;have h2:=zbC (s:=s) 6 [61] st2;have h01:=h0.trans h1
     split <;> rename_i e2 <;> rw [e2] at h2
     ·exact h01.trans h2
     ·rename_i st3;have h3:=(zbx (s:=s) f).1 1 st3;have h02:=h01.trans h2
      split <;> rename_i e3 <;> rw [e3] at h3
      ·exact ziY (h02.trans h3)
      ·exact (ziY (h02.trans h3)).trans (ziZ _ _)
   ·have h1:=(zbx (s:=s) f).1 1 (zav (zD s) st)
    split <;> rename_i e <;> rw [e] at h1
    ·exact h0.trans h1
    ·rename_i t st2;have h2:=zbC (s:=s) 3 [97,115] st2;have h01:=h0.trans h1
     split <;> rename_i e2 <;> rw [e2] at h2
     ·exact h01.trans h2
     ·rename_i st3;have h3:=zgl (s:=s) st3.checks st3;have h02:=h01.trans h2
      split <;> rename_i e3 <;> rw [e3] at h3
      ·exact zfA (h02.trans h3)
      ·exact (zfA (h02.trans h3)).trans (ziZ _ _)
theorem zro {f many:Nat} {st st2:PS} {x:LineD} (h:zbS (zD s) f many st=(some x,st2)):st.tok.at_+1<=st2.tok.at_:=by
 have ht:1<=st.tok.text.length:=by
  unfold zbS at h
  split at h
  ·cases h
  ·rename_i hc;have hl:zbs st.tok.text<4:=by
    refine Jn fun hn=>hc (.inr ?_);omega
   cases ht:st.tok.text with
   | nil=>rw [ht] at hl;exact GD hl (by decide)
   | cons a r=>simp
 have hn:=zj4 s st;have key:(zav (zD s) st).tok.at_<=st2.tok.at_:=by
  have e2:st2=(zbS (zD s) f many st).2:=by rw [h]
  rw [e2];unfold zbS at h ⊢
  split at h
  ·cases h
  ·rename_i hc;rw [GB hc]
   split at h
   ·cases h
   ·rename_i hc2;rw [GB hc2]
    split at h
    ·rename_i hc3;rw [GC hc3];have h1:=zgl (s:=s) (fun t=>j7 t||st.lets t) (zav (zD s) st)
     split <;> rename_i e <;> rw [e] at h1
     ·exact h1.1
     ·rename_i nq st2;have h2:=zbC (s:=s) 6 [61] st2
      split <;> rename_i e2 <;> rw [e2] at h2
      ·exact (h1.trans h2).1
      ·rename_i st3;have h3:=(zbx (s:=s) f).1 1 st3
       split <;> rename_i e3 <;> rw [e3] at h3
       ·exact (h1.trans (h2.trans h3)).1
       ·exact ((ziY (h1.trans (h2.trans h3))).trans (ziZ _ _)).1
    ·rename_i hc3;rw [GB hc3];have h1:=(zbx (s:=s) f).1 1 (zav (zD s) st)
     split <;> rename_i e <;> rw [e] at h1
     ·exact h1.1
     ·rename_i t st2;have h2:=zbC (s:=s) 3 [97,115] st2
      split <;> rename_i e2 <;> rw [e2] at h2
      ·exact (h1.trans h2).1
      ·rename_i st3;have h3:=zgl (s:=s) st3.checks st3
       split <;> rename_i e3 <;> rw [e3] at h3
       ·exact (h1.trans (h2.trans h3)).1
       ·exact ((zfA (h1.trans (h2.trans h3))).trans (ziZ _ _)).1
 omega
theorem znL {sc:Nat->Tk} {f many:Nat} {st st2:PS} {x:LineD} (h:zbS sc f many st=(some x,st2)):many<40:=by
 unfold zbS at h
 split at h
 ·cases h
 ·split at h
  ·cases h
  ·omega
theorem zni {i:Nat} (h:(zD s i).kind=2):1<=(zD s i).text.length:=by
 unfold zD at h ⊢;unfold zaG at h ⊢;have sh:∀ {k:Nat} {t:Bs} {a:Nat},k≠2->(zap k t a).kind≠2:=fun {k t a} hk=>by
  unfold zap;split
  ·exact fun h=>GD h (by show (0:Nat)≠2;decide)
  ·exact hk
 split at h
 ·exact GD h (by show (1:Nat)≠2;decide)
 ·rename_i c hc
  split at h
  ·rename_i h10;rw [GC h10];exact Gh _
  ·split at h
   ·split at h
    ·exact GD h (by show (3:Nat)≠2;decide)
    ·exact GD h (sh (by decide))
   ·split at h
    ·exact GD h (sh (by decide))
    ·split at h
     ·exact GD h (by show (6:Nat)≠2;decide)
     ·split at h
      ·exact GD h (by show (6:Nat)≠2;decide)
      ·exact GD h (by show (0:Nat)≠2;decide)
end
end Go.Proofs.YtnadlhpkpnfmbaaGreatDoor
namespace Go.Proofs.YtnadlhpkpnfmbaaGreatDoor
open Go.Vc Go.RowKit Go.Sei
def zkU (g l c:Nat) (s:Bs) (w:Wd) (r:Option Trm×PS) (e:Ending) (w':Wd):Prop :=
 ∃ (t:Trm) (q:OA) (cap:Nat),e = .returned (.tuple #[.agg (ze t q cap).toArray,.bool r.1.isSome]) /\
  (∀ x,r.1=some x->x=t/\t.name.length<=8192/\KidsT (fun b=>w.heap.size<=b) w' q t.kids)/\ParB g l c s r.2 w'/\w.grownBy w' (some g)
def zT:Trm := .mk 0 [] []
def zkW (g l c:Nat) (s:Bs) (f:Nat):Prop:=∀ (least:Nat) (st:PS) (w:Wd),least<=5->ParB g l c s st w->4*(s.length-st.tok.at_)+3<=f ->
 Calls PG 111 #[At0 g,i64 (least:Nat)] w (zkU g l c s w (termP (zD s) f least st))
section
variable {g l c:Nat} {s:Bs} {st:PS} {w w2 X:Wd}
theorem ParB.upto (h:ParB g l c s st w) (hb:Below (g+1) w w2):ParB g l c s st w2:=by
 have o:=h.ord;have sm:∀ {j},j<=g->w2.heap[j]?=w.heap[j]?:=fun {j} hj=>hb.block j (by omega);have hg:=h.glob;refine⟨(sm (Gh _)).trans h.f,h.lm.same (sm (by omega)),h.cm.same (sm (by omega)),o,⟨zL (sm ?_) hg.op,zL (sm ?_) hg.st,zL (sm ?_) hg.sg,zL (sm ?_) hg.nd,nL hg.lt hb.size⟩,h.len,h.pos,h.nod,h.dep⟩
 all_goals exact UX (by decide) (by omega:3<=g)
theorem zkq {Y:Wd} (h:w.grownBy X (some g)) (hb:Below w.heap.size X Y):w.grownBy Y (some g) :=
 ⟨hb.os.trans h.os,hb.tape.trans h.tape,hb.output.trans h.output,UX h.size hb.size,fun j hj hn=>(hb.block j hj).trans (h.block j hj hn)⟩
theorem zby {t:Bs} (h:isP st t=true):st.tok.text.length=t.length:=by
 unfold isP at h;rw [bAT] at h;rw [dT h.2]
theorem zfl {r:Nat} {t:Trm} {q:OA} {cap:Nat} {cs:Array Value} (hr:w.heap.size<=r) (f:X.heap[r]?=some (.cells cs 24 (0,0))) (h3:cs.size=3) (hX:ParB g l c s st X) (gX:w.grownBy X (some g)) (hg:g<w.heap.size) {K:Wd->Prop}
  (k:∀ Y,ParB g l c s st Y->w.grownBy Y (some g)->Y.heap[r]?=some (.cells (ze t q cap).toArray 24 (0,0))->(∀ j,j≠r->Y.heap[j]?=X.heap[j]?)->Y.heap.size=X.heap.size->K Y) :
  SatR ((storeVar 24 ⟨r,0,none⟩ (.agg (ze t q cap).toArray)).run PG X) fun _ w'=>K w':=by
 exact zr (v := .agg (ze t q cap).toArray) k24 f rfl h3 rfl (k _ (hX.upto (zk (Gm _ X) (by omega) _)) (zkq gX (zk (Gm _ X) hr _)) (zm f) (fun j hj=>zp hj) (by simp))
structure SimB (w:Wd) (g l c:Nat) (s:Bs) (st:PS) (tb:Nat) (t:Trm) (q:OA) (cap:Nat) (Y:Wd):Prop where
 p:ParB g l c s st Y
 r:Y.heap[w.heap.size]?=some (.cells (ze zT none 0).toArray 24 (0,0))
 x:Y.heap[tb]?=some (.cells (ze t q cap).toArray 24 (0,0))
 o:w.grownBy Y (some g)
 lt:w.heap.size<tb
 g:g<w.heap.size
structure AnsB (w:Wd) (g l c:Nat) (s:Bs) (st:PS) (Y:Wd):Prop where
 p:ParB g l c s st Y
 r:Y.heap[w.heap.size]?=some (.cells (ze zT none 0).toArray 24 (0,0))
 o:w.grownBy Y (some g)
 g:g<w.heap.size
section
variable {tb:Nat} {t:Trm} {q:OA} {cap:Nat} {Y Z:Wd} {st':PS}
theorem SimB.ans (h:SimB w g l c s st tb t q cap Y):AnsB w g l c s st Y:=⟨h.p,h.r,h.o,h.g⟩
theorem AnsB.grown (h:AnsB w g l c s st Y) (hZ:ParB g l c s st' Z) (gZ:Y.grownBy Z (some g)):AnsB w g l c s st' Z :=
 ⟨hZ,(gZ.block _ (hlt h.r) (by have:=h.g;simp;omega)).trans h.r,zg h.o gZ,h.g⟩
theorem SimB.grown (h:SimB w g l c s st tb t q cap Y) (hZ:ParB g l c s st' Z) (gZ:Y.grownBy Z (some g)):SimB w g l c s st' tb t q cap Z :=
 ⟨hZ,(gZ.block _ (hlt h.r) (by have:=h.g;simp;omega)).trans h.r,(gZ.block _ (hlt h.x) (by have:=h.g;have:=h.lt;simp;omega)).trans h.x,zg h.o gZ,h.lt,h.g⟩
theorem SimB.drew (h:SimB w g l c s st tb t q cap Y):SimB w g l c s st tb t q cap Y.drew :=
 h.grown (h.p.below (Gm _ Y).drew) (zh (Gm _ Y).drew)
theorem AnsB.box (h:AnsB w g l c s st Y) {cs:Array Value} (h3:cs.size=3) {K:Wd->Prop} (k:∀ Z,SimB w g l c s st Y.heap.size t q cap Z->Bw Y Z->Z.heap.size=Y.heap.size+1->K Z) :
  SatR ((storeVar 24 ⟨Y.heap.size,0,none⟩ (.agg (ze t q cap).toArray)).run PG (Y.alloc (.cells cs 24))) fun _ w'=>K w' :=
 zl (X:=Y) (v := .agg (ze t q cap).toArray) k24 rfl h3 rfl fun Z hbZ fZ sZ =>
  k Z ⟨h.p.below hbZ,zb hbZ h.r,fZ,zg h.o (zh hbZ),hlt h.r,h.g⟩ hbZ sZ
theorem AnsB.fin (h:AnsB w g l c s st Y) {R:Option Trm×PS} {ok:Bool} (e1:R.1.isSome=ok) (e2:R.2=st) (e3:∀ x,R.1=some x->x=t/\t.name.length<=8192/\KidsT (fun b=>w.heap.size<b) Y q t.kids) :
  SatR ((storeVar 24 ⟨w.heap.size,0,none⟩ (.agg (ze t q cap).toArray)).run PG Y) fun _ w'=>∃ us:List Value,us.length=3/\zq w' ⟨w.heap.size,0,none⟩ us/\zkU g l c s w R (.returned (jT [.agg us.toArray,.bool ok])) w':=by
 refine zfl (t:=t) (q:=q) (cap:=cap) (Gh _) h.r rfl h.p h.o h.g fun Z hZ gZ fZ oZ _=>⟨ze t q cap,rfl,za fZ,t,q,cap,by rw [e1];rfl,fun x hx=>?_,by rw [e2];exact hZ,gZ⟩;obtain⟨h1,h2,h3⟩:=e3 x hx;exact⟨h1,h2,(h3.by fun b cs ty fr hb hc=>oZ b (by omega)).weak fun b hb=>by omega⟩
theorem AnsB.none (h:AnsB w g l c s st Y) {R:Option Trm×PS} (hR:R=(none,st)) :
  SatR ((storeVar 24 ⟨w.heap.size,0,none⟩ (.agg (ze t q cap).toArray)).run PG Y) fun _ w'=>∃ us:List Value,us.length=3/\zq w' ⟨w.heap.size,0,none⟩ us/\zkU g l c s w R (.returned (jT [.agg us.toArray,.bool false])) w' :=
 h.fin (by rw [hR];rfl) (by rw [hR]) (fun x hx=>by rw [hR] at hx;cases hx)
theorem AnsB.leaf {b:Bool} (h:AnsB w g l c s st Y) {R:Option Trm×PS} (hR:R=(if b=true then some t else Option.none,st)) (hk:t.kids=[]) (hn:t.name.length<=8192) :
  SatR ((storeVar 24 ⟨w.heap.size,0,Option.none⟩ (.agg (ze t q cap).toArray)).run PG Y) fun _ w'=>∃ us:List Value,us.length=3/\zq w' ⟨w.heap.size,0,Option.none⟩ us/\zkU g l c s w R (.returned (jT [.agg us.toArray,.bool b])) w':=by
 refine h.fin (by rw [hR];cases b <;> rfl) (by rw [hR]) fun x hx=>?_;rw [hR] at hx
 cases b with
 | false=>cases hx
 | true=>exact⟨(Ui hx).symm,hn,by rw [hk];exact .nil⟩
end
theorem znd {f:Nat} (hT:zkW g l c s f) (h:ParB g l c s st w) (hf:4*(s.length-st.tok.at_)<=f) :
  Calls PG 205 #[At0 g] w (zkU g l c s w (simpleP (zD s) (f+1) st)):=by
 refine zU 115 [At0 g] (.c .p (.s (.b (.s .p (.d (.c .p (.c .p .p)) (.s .p (.d (.c .p (.c .p (.c .p (.c .p (.c .p .p))))) (.c .p (.d (.s .p (.c .p (.c .p (.c .p .p)))) .p))))))) .p)) Tryz.func205 ?_;obtain⟨R,hR⟩:=nm (simpleP (zD s) (f+1) st);rw [<- hR];rw [simpleP] at hR;refine⟨Unit,fun _=>⟨[(0,At0 g),(2,At0 w.heap.size)],[]⟩,fun _ X=>AnsB w g l c s st X,⟨(),(cvE rfl rfl),h.below (zba _ _),zt w _,zh (zba _ _),h.lt⟩,?_⟩;have hlen:=h.len;have hpos:=h.pos;have hdep:=h.dep;rintro _ X hX;refine⟨_,zc (za hX.p.f) (i:=1) rfl,biE (fun h1=>?_) fun h1=>?_⟩
 ·
  have h1:st.tok.kind=4:=dT ((zP (b:=4)).symm.trans h1);rw [GC h1] at hR;have tl:st.tok.text.length<=8192:=by omega
  refine⟨Nat,fun tb=>⟨[(0,At0 g),(2,At0 w.heap.size),(4,At0 tb)],[]⟩,fun tb Y=>SimB w g l c s st tb (.mk 1 st.tok.text []) none 0 Y,?_,?_⟩
  ·exact⟨_,zc (za hX.p.f) (i:=2) rfl,ze (.mk 1 st.tok.text []) none 0,rfl,hX.box rfl fun Y hY _ _=>⟨_,(cvE rfl rfl),hY⟩⟩
  clear hX X;rintro tb Y hY;refine⟨Unit,fun _=>⟨[(0,At0 g),(2,At0 w.heap.size),(4,At0 tb)],[]⟩,fun _ Y=>SimB w g l c s st tb (.mk 1 st.tok.text []) none 0 Y/\R=((if (zal (zD s) st).1=true then some (.mk 1 st.tok.text []) else none),(zal (zD s) st).2),?_,?_⟩
  ·refine DrawE.ord [] [0,1,2,3,4,5,6,7,8,9,10,11,12,13] (by kernel_rfl) ?_;have hD:=hY.drew;refine⟨_,zc (za hD.x) (i:=1) rfl,cmo (zgn st.tok.text _) ?_⟩;rintro e _ ⟨rfl,rfl⟩;refine⟨Gm _ _,?_⟩;have good:(!j7 st.tok.text && !st.lets st.tok.text)=false->R=((if (zal (zD s) st).1=true then some (.mk 1 st.tok.text []) else none),(zal (zD s) st).2):=fun hn=>by
    rw [hR,hn,GB Kv]
    cases zal (zD s) st with
    | mk b st2=>cases b <;> rfl
   refine biE (fun h2=>?_) fun h2=>?_
   ·have h2:(!j7 st.tok.text)=true:=h2;refine⟨_,zc (za hD.p.f) (i:=4) rfl,_,zc (za hD.x) (i:=1) rfl,_,fun w2 hb=>zdr (hD.p.lm.below hb) st.tok.text,biE (fun h3=>?_) fun h3=>?_⟩
    ·have h3:(!st.lets st.tok.text)=true:=h3;rw [h2,h3] at hR;rw [GC (by rfl:(true&&true)=true)] at hR;have hE:=hD.drew;refine DrawE.treeQ [2,3] (.op 1 (.alt (.op 2 (.op 0 (.op 3 (.op 4 .nil)))) (.op 0 (.op 2 (.op 3 (.op 4 .nil)))))) (by kernel_rfl) (Gs ?_ ?_)
     ·refine cmo (jC hE.p 112) ?_;rintro e Z ⟨rfl,hZ,gZ⟩;have hE2:=hE.grown hZ gZ;exact⟨_,rfl,za hE2.x,hlt hE2.x,hE2.ans.none hR⟩
     ·refine⟨_,rfl,za hE.x,hlt hE.x,cmo (jC hE.p 112) ?_⟩;rintro e Z ⟨rfl,hZ,gZ⟩;exact (hE.grown hZ gZ).ans.none hR
    ·have h3:(!st.lets st.tok.text)=false:=h3;exact⟨(),(cvE rfl rfl),hD,good (by rw [h3,Um])⟩
   ·have h2:(!j7 st.tok.text)=false:=h2;exact brF ⟨(),(cvE rfl rfl),hD,good (by rw [h2,Un])⟩
  clear hY hR Y;rintro _ Y ⟨hY,hR⟩;have hE:=hY.drew;refine DrawE.treeQ [2,3] (.op 1 (.alt (.op 2 (.op 0 (.op 3 (.op 4 .nil)))) (.op 0 (.op 2 (.op 3 (.op 4 .nil)))))) (by kernel_rfl) (Gs ?_ ?_)
  ·refine cmo (zgS hE.p) ?_;rintro e2 Z ⟨rfl,hZ,gZ⟩;have hE2:=hE.grown hZ gZ;exact⟨_,rfl,za hE2.x,hlt hE2.x,hE2.ans.leaf hR rfl tl⟩
  ·refine⟨_,rfl,za hE.x,hlt hE.x,cmo (zgS hE.p) ?_⟩;rintro e2 Z ⟨rfl,hZ,gZ⟩;exact (hE.grown hZ gZ).ans.leaf hR rfl tl
 have h1:st.tok.kind≠4:=dF ((zP (b:=4)).symm.trans h1);rw [GB h1] at hR;refine cmo (zru hX.p [91]) ?_;rintro e _ ⟨rfl,rfl⟩;refine biE (fun h2=>?_) fun h2=>?_
 ·
  have h2:isP st [91]=true:=h2;rw [GC h2] at hR;rcases hnd:zal (zD s) st with ⟨nb,st2⟩;rw [hnd] at hR;refine⟨Unit,fun _=>⟨[(0,At0 g),(2,At0 w.heap.size)],[]⟩,fun _ Y=>AnsB w g l c s st2 Y/\nb=true,?_,?_⟩
  ·refine cmo (zgS hX.p) ?_;rintro e Y ⟨rfl,hY,gY⟩;rw [hnd] at hY ⊢;dsimp only at hY;have hY2:=hX.grown hY gY;refine biE (fun h3=>?_) fun h3=>?_
   ·have h3:(!nb)=true:=h3;have h3:nb=false:=(by simpa using h3);subst h3;exact⟨ze zT none 0,rfl,hY2.none hR⟩
   ·have h3:(!nb)=false:=h3;exact⟨(),(cvE rfl rfl),hY2,by simpa using h3⟩
  clear hX X;rintro _ Y ⟨hY,rfl⟩;dsimp only at hR;have hp2:=hY.p.pos;have tl:st2.tok.text.length<=8192:=by omega
  refine⟨Nat,fun tb=>⟨[(0,At0 g),(2,At0 w.heap.size),(5,At0 tb)],[]⟩,fun tb Y=>SimB w g l c s st2 tb (.mk 9 st2.tok.text []) none 0 Y,?_,?_⟩
  ·exact⟨_,zc (za hY.p.f) (i:=2) rfl,ze (.mk 9 st2.tok.text []) none 0,rfl,hY.box rfl fun Z hZ _ _=>⟨_,(cvE rfl rfl),hZ⟩⟩
  clear hY Y;rintro tb Z hZ;refine⟨Unit,fun _=>⟨[(0,At0 g),(2,At0 w.heap.size),(5,At0 tb)],[]⟩,fun _ Y=>SimB w g l c s st2 tb (.mk 9 st2.tok.text []) none 0 Y/\st2.tok.kind=5,?_,?_⟩
  ·refine⟨_,zc (za hZ.p.f) (i:=1) rfl,biE (fun h4=>?_) fun h4=>?_⟩
   ·have h4:(!decide ((st2.tok.kind:Int)=((5:Nat):Int)))=true:=h4;rw [zP] at h4;have h4:st2.tok.kind≠5:=(by simpa using h4);rw [GC h4] at hR;have hE:=hZ.drew;refine DrawE.treeQ [2,3] (.op 1 (.alt (.op 2 (.op 0 (.op 3 (.op 4 .nil)))) (.op 0 (.op 2 (.op 3 (.op 4 .nil)))))) (by kernel_rfl) (Gs ?_ ?_)
    ·refine cmo (jC hE.p 110) ?_;rintro e2 V ⟨rfl,hV,gV⟩;have hE2:=hE.grown hV gV;exact⟨_,rfl,za hE2.x,hlt hE2.x,hE2.ans.none hR⟩
    ·refine⟨_,rfl,za hE.x,hlt hE.x,cmo (jC hE.p 110) ?_⟩;rintro e2 V ⟨rfl,hV,gV⟩;exact (hE.grown hV gV).ans.none hR
   ·have h4:(!decide ((st2.tok.kind:Int)=((5:Nat):Int)))=false:=h4;rw [zP] at h4;exact⟨(),(cvE rfl rfl),hZ,by simpa using h4⟩
  clear hZ Z;rintro _ Z ⟨hZ,h4⟩;rw [GB (fun k=>k h4)] at hR;refine⟨Unit,fun _=>⟨[(0,At0 g),(2,At0 w.heap.size),(5,At0 tb)],[]⟩,fun _ Y=>SimB w g l c s st2 tb (.mk 9 st2.tok.text []) none 0 Y/\zhE st2.tok.text=true,?_,?_⟩
  ·refine⟨_,zc (za hZ.x) (i:=1) rfl,cmo (zmA st2.tok.text Z) ?_⟩;rintro e _ ⟨rfl,rfl⟩;refine biE (fun h5=>?_) fun h5=>?_
   ·have h5:(!zhE st2.tok.text)=true:=h5;have h5:zhE st2.tok.text=false:=(by simpa using h5);rw [GC h5] at hR;have hE:=hZ.drew;refine DrawE.treeQ [2,3] (.op 1 (.alt (.op 2 (.op 0 (.op 3 (.op 4 .nil)))) (.op 0 (.op 2 (.op 3 (.op 4 .nil)))))) (by kernel_rfl) (Gs ?_ ?_)
    ·refine cmo (jC hE.p 112) ?_;rintro e2 V ⟨rfl,hV,gV⟩;have hE2:=hE.grown hV gV;exact⟨_,rfl,za hE2.x,hlt hE2.x,hE2.ans.none hR⟩
    ·refine⟨_,rfl,za hE.x,hlt hE.x,cmo (jC hE.p 112) ?_⟩;rintro e2 V ⟨rfl,hV,gV⟩;exact (hE.grown hV gV).ans.none hR
   ·have h5:(!zhE st2.tok.text)=false:=h5;exact⟨(),(cvE rfl rfl),hZ,by simpa using h5⟩
  clear hZ Z;rintro _ Z ⟨hZ,h5⟩;rw [GB (by rw [h5];decide)] at hR;refine⟨Unit,fun _=>⟨[(0,At0 g),(2,At0 w.heap.size),(5,At0 tb)],[]⟩,fun _ Y=>SimB w g l c s (nx s st2) tb (.mk 9 st2.tok.text []) none 0 Y,?_,?_⟩
  ·refine cmo (zbw hZ.p) ?_;rintro e Z2 ⟨rfl,hZ2,gZ2⟩;exact⟨(),(cvE rfl rfl),hZ.grown hZ2 gZ2⟩
  clear hZ Z;rintro _ Z hZ;have hE:=hZ.drew;have eR:R=((if (qc (zD s) 6 [93] (nx s st2)).1=true then some (.mk 9 st2.tok.text []) else none),(qc (zD s) 6 [93] (nx s st2)).2):=by
   rw [hR];show (match qc (zD s) 6 [93] (nx s st2) with | (true,st3)=>_ | (false,st3)=>_)=_
   cases qc (zD s) 6 [93] (nx s st2) with
   | mk b st3=>cases b <;> rfl
  refine DrawE.treeQ [2,3] (.op 1 (.alt (.op 2 (.op 0 (.op 3 (.op 4 .nil)))) (.op 0 (.op 2 (.op 3 (.op 4 .nil)))))) (by kernel_rfl) (Gs ?_ ?_)
  ·refine cmo (zcA hE.p 6 [93]) ?_;rintro e2 V ⟨rfl,hV,gV⟩;have hE2:=hE.grown hV gV;exact⟨_,rfl,za hE2.x,hlt hE2.x,hE2.ans.leaf eR rfl tl⟩
  ·refine⟨_,rfl,za hE.x,hlt hE.x,cmo (zcA hE.p 6 [93]) ?_⟩;rintro e2 V ⟨rfl,hV,gV⟩;exact (hE.grown hV gV).ans.leaf eR rfl tl
 have h2:isP st [91]=false:=h2;rw [GB (by rw [h2];exact Kv)] at hR;refine⟨Bool,fun b=>⟨[(0,At0 g),(2,At0 w.heap.size),(75,.bool b)],[]⟩,fun b Y=>AnsB w g l c s st Y/\b=(isP st [40]&&decide (st.deep<50)),?_,?_⟩
 ·refine cmo (zru hX.p [40]) ?_;rintro e _ ⟨rfl,rfl⟩;refine biE (fun h3=>?_) fun h3=>?_
  ·have h3:isP st [40]=true:=h3;refine⟨_,zc (za hX.p.f) (i:=7) rfl,decide (st.deep<50),⟨.cons rfl (.cons rfl (.cons ?_ .nil)),rfl⟩,hX,by rw [h3];rfl⟩;show some (Value.bool (decide ((st.deep:Int)<50)))=some (.bool (decide (st.deep<50)));congr 2;rw [QJ];omega
  ·have h3:isP st [40]=false:=h3;exact⟨false,(cvE rfl rfl),hX,by rw [h3];rfl⟩
 clear hX X;rintro b X ⟨hX,hb⟩;refine biE (fun hbt=>?_) fun hbf=>?_
 ·
  have hbt:b=true:=hbt;rw [hbt] at hb;rw [GC hb.symm] at hR;have hb2:=hb.symm;rw [bAT,dE] at hb2;obtain⟨h3,h4⟩:=hb2;obtain⟨st2,hs2⟩:∃ st2,st2=zav (zD s) { st with deep:=st.deep+1 }:=⟨_,rfl⟩;rw [<- hs2] at hR;have d2:st2.deep=st.deep+1:=by rw [hs2];rfl
  have at2:st.tok.at_+1<=st2.tok.at_:=by
   have:=zj4 s { st with deep:=st.deep+1 };have hl1:=zby h3;rw [hs2];refine UX ?_ this;show _<=st.tok.at_+st.tok.text.length;rw [hl1];exact Gh _
  have hl0:1<=s.length-st.tok.at_:=by
   have hl1:=zby h3;have:([40]:Bs).length=1:=rfl;omega
  refine⟨_,zc (za hX.p.f) (i:=7) rfl,((st.deep+1:Nat):Int),(zi (by omega)).trans (by omega),hX.p.deep (n:=st.deep+1) (by omega) fun Y hY gY=>?_⟩;have hXY:=hX.grown hY gY;refine⟨Unit,fun _=>⟨[(0,At0 g),(2,At0 w.heap.size)],[]⟩,fun _ Y=>AnsB w g l c s st2 Y,?_,?_⟩
  ·refine cmo (zbw hXY.p) ?_;rintro e Z ⟨rfl,hZ,gZ⟩;rw [hs2];exact⟨(),(cvE rfl rfl),hXY.grown hZ gZ⟩
  clear hXY hY gY Y hX X;rintro _ Z hZ;rcases htm:termP (zD s) f 1 st2 with ⟨r1,st3⟩;rw [htm] at hR;have hm:=(zbx (s:=s) f).1 1 st2;rw [htm] at hm;have d3:st3.deep=st.deep+1:=by rw [<- d2];exact hm.2.1
  refine⟨Nat×Trm×OA×Nat,fun y=>⟨[(0,At0 g),(2,At0 w.heap.size),(6,At0 y.1),(7,.bool r1.isSome)],[]⟩,fun y Y=>SimB w g l c s st3 y.1 y.2.1 y.2.2.1 y.2.2.2 Y/\∀ x,r1=some x->x=y.2.1/\y.2.1.name.length<=8192/\KidsT (fun b=>w.heap.size<b) Y y.2.2.1 y.2.1.kids,?_,?_⟩
  ·refine cmo (hT 1 st2 Z (by decide) hZ.p (by omega)) ?_;rw [htm];rintro e V ⟨t,q,cap,rfl,hk,hV,gV⟩;dsimp only at hk hV;have hZV:=hZ.grown hV gV;refine hZV.box rfl fun U hU bU _=>⟨(V.heap.size,t,q,cap),(cvE rfl rfl),hU,fun x hx=>?_⟩;obtain⟨k1,k2,k3⟩:=hk x hx;refine⟨k1,k2,(k3.kept bU).weak fun b hb=>?_⟩;have:=hlt hZ.r;omega
  clear hZ Z;rintro⟨tb,t,q,cap⟩ U ⟨hU,hk⟩;dsimp only at hU hk ⊢;refine⟨Unit,fun _=>⟨[(0,At0 g),(2,At0 w.heap.size),(6,At0 tb),(7,.bool r1.isSome)],[]⟩,fun _ Y=>SimB w g l c s { st3 with deep:=st3.deep-1 } tb t q cap Y/\∀ x,r1=some x->x=t/\t.name.length<=8192/\KidsT (fun b=>w.heap.size<b) Y q t.kids,?_,?_⟩
  ·refine⟨_,zc (za hU.p.f) (i:=7) rfl,((st3.deep-1:Nat):Int),(zi (by omega)).trans (by omega),hU.p.deep (n:=st3.deep-1) (by omega) fun T hTb gT=>⟨(),(cvE rfl rfl),hU.grown hTb gT,fun x hx=>?_⟩⟩;obtain⟨k1,k2,k3⟩:=hk x hx;have:=hU.g;exact⟨k1,k2,k3.by fun b cs ty fr hb hc=>gT.block b (hlt hc) (by simp;omega)⟩
  clear hU hk U;rintro _ T ⟨hTT,hk⟩;have hE:=hTT.drew;have hkE:∀ x,r1=some x->x=t/\t.name.length<=8192/\KidsT (fun b=>w.heap.size<b) T.drew q t.kids:=fun x hx=>by
   obtain⟨k1,k2,k3⟩:=hk x hx;exact⟨k1,k2,k3.kept (Gm _ T).drew⟩
  cases r1 with
  | none =>
   refine DrawE.treeQ [4,6] (.op 1 (.op 2 (.op 3 (.alt (.op 4 (.op 0 (.op 5 (.op 6 (.op 7 .nil))))) (.op 0 (.op 4 (.op 5 (.op 6 (.op 7 .nil))))))))) (by kernel_rfl) (brF (Gs ?_ ?_))
   ·exact⟨_,rfl,za hE.x,hlt hE.x,hE.ans.none hR⟩
   ·exact⟨_,rfl,za hE.x,hlt hE.x,hE.ans.none hR⟩
  | some t1 =>
   obtain⟨k1,k2,k3⟩:=hkE t1 rfl;subst k1;have eR:R=((if (qc (zD s) 6 [41] { st3 with deep:=st3.deep-1 }).1=true then some t1 else none),(qc (zD s) 6 [41] { st3 with deep:=st3.deep-1 }).2):=by
    rw [hR];dsimp only
    cases qc (zD s) 6 [41] { st3 with deep:=st3.deep-1 } with
    | mk b st4=>cases b <;> rfl
   have gw:=hE.g;have fEnd:∀ {N:Wd},SimB w g l c s (qc (zD s) 6 [41] { st3 with deep:=st3.deep-1 }).2 tb t1 q cap N->T.drew.grownBy N (some g)->SatR ((storeVar 24 ⟨w.heap.size,0,none⟩ (.agg (ze t1 q cap).toArray)).run PG N) fun _ w'=>∃ us:List Value,us.length=3/\zq w' ⟨w.heap.size,0,none⟩ us/\zkU g l c s w R (.returned (jT [.agg us.toArray,.bool (qc (zD s) 6 [41] { st3 with deep:=st3.deep-1 }).1])) w':=by
    intro N hN gN;refine hN.ans.fin (by rw [eR];dsimp only;cases (qc (zD s) 6 [41] { st3 with deep:=st3.deep-1 }).1 <;> rfl) (by rw [eR]) fun x hx=>?_;rw [eR] at hx;dsimp only at hx
    split at hx
    ·exact⟨(Ui hx).symm,k2,k3.by fun b cs ty fr hb hc=>gN.block b (hlt hc) (by simp;omega)⟩
    ·cases hx
   refine DrawE.treeQ [4,6] (.op 1 (.op 2 (.op 3 (.alt (.op 4 (.op 0 (.op 5 (.op 6 (.op 7 .nil))))) (.op 0 (.op 4 (.op 5 (.op 6 (.op 7 .nil))))))))) (by kernel_rfl) (brT (Gs ?_ ?_))
   ·refine cmo (zcA hE.p 6 [41]) ?_;rintro e2 N ⟨rfl,hN,gN⟩;have hE2:=hE.grown hN gN;exact⟨_,rfl,za hE2.x,hlt hE2.x,fEnd hE2 gN⟩
   ·refine⟨_,rfl,za hE.x,hlt hE.x,cmo (zcA hE.p 6 [41]) ?_⟩;rintro e2 N ⟨rfl,hN,gN⟩;exact fEnd (hE.grown hN gN) gN
 ·have hbf:b=false:=hbf;rw [hbf] at hb;rw [GB (by rw [<- hb];exact Kv)] at hR;refine⟨ze zT none 0,rfl,cmo (jC hX.p 110) ?_⟩;rintro e2 V ⟨rfl,hV,gV⟩;exact (hX.grown hV gV).none hR
end
theorem zov {n:Nat} (h:n<=255):u8n n=u8 (UInt8.ofNat n):=by
 unfold u8n u8;rw [KJ,QE (by omega)]
section
variable {Q:Nat->Prop} {w:Wd}
theorem KidsT.one {t:Trm} {q:OA} {cap b:Nat} (hb:Q b) (hc:zq w ⟨b,0,none⟩ (ze t q cap)) (hn:t.name.length<=8192) (hk:KidsT Q w q t.kids):KidsT Q w (some ⟨b,0,none⟩) [t] :=
 .mk _ [t] (by show 1<=_;decide) b 0 (.inr rfl) (fun _=>q) (fun _=>cap) (fun i hi=>by
  obtain rfl:i=0:=by have:i<1:=hi;omega
  exact⟨by show t.name.length<=_;omega,hb,hc⟩) (fun i hi=>by
  obtain rfl:i=0:=by have:i<1:=hi;omega
  exact hk)
theorem KidsT.two {t u:Trm} {q p:OA} {cap cp b:Nat} (hb:Q b) (hc:zq w ⟨b,0,none⟩ (ze t q cap++ze u p cp)) (hn:t.name.length<=140737488351232) (hk:KidsT Q w q t.kids) (hn2:u.name.length<=140737488351232) (hk2:KidsT Q w p u.kids):KidsT Q w (some ⟨b,0,none⟩) [t,u]:=by
 have hc2:=zoa.1 hc;refine .mk _ [t,u] (by show 2<=_;decide) b 0 (.inr rfl) (fun i=>if i=0 then q else p) (fun i=>if i=0 then cap else cp) (fun i hi=>?_) (fun i hi=>?_)
 ·have hi:i<2:=hi;rcases (by omega:i=0\/i=1) with rfl | rfl
  ·exact⟨by show t.name.length<=_;omega,hb,hc2.1⟩
  ·exact⟨by show u.name.length<=_;omega,hb,hc2.2⟩
 ·have hi:i<2:=hi;rcases (by omega:i=0\/i=1) with rfl | rfl
  ·exact hk
  ·exact hk2
end
def zeL (st:PS):Nat->Nat
 | 0=>0
 | i+1=>if isP st (jL.getD (6+i) []) then 6+i else zeL st i
theorem zjW (st:PS):∀ i,i<=3->zeL st i<=8
 | 0,_=>Gj _
 | i+1,h=>by
  unfold zeL
  split
  ·omega
  ·exact zjW st i (by omega)
theorem znw {st:PS} (h:zcb st≠0):1<=st.tok.text.length:=by
 unfold zcb at h
 split at h
 ·rename_i h1;rw [zby h1];decide
 ·split at h
  ·rename_i h1;rw [zby h1];decide
  ·split at h
   ·rename_i h1;rw [zby h1];decide
   ·exact GD rfl h
theorem zh7 {st:PS} (h:qm st≠0):1<=st.tok.text.length/\2<=qm st/\qm st<=5/\zbJ.getD (qm st) 0=qm st-1:=by
 unfold qm at h ⊢
 split
 ·rename_i h1;rw [zby h1];decide
 ·split
  ·rename_i h1;rw [zby h1];decide
  ·split
   ·rename_i h1;rw [zby h1];decide
   ·split
    ·rename_i h1;rw [zby h1];decide
    ·rename_i h1 h2 h3 h4;rw [GB h1,GB h2,GB h3,GB h4] at h;exact GD rfl h
theorem zmu {s:Bs} {st st2:PS} (h:zal (zD s) st=(true,st2)) (hl:1<=st.tok.text.length):st.tok.at_+1<=st2.tok.at_:=by
 unfold zal at h
 split at h
 ·cases h
 ·have h2:=(Gk h).2;rw [<- h2];have:=zj4 s { st with nodes:=st.nodes+1 };refine UX ?_ this;show _<=st.tok.at_+st.tok.text.length;omega
section
variable {g l c:Nat} {s:Bs} {st:PS} {w w2 X:Wd}
theorem SimB.store {tb:Nat} {t t':Trm} {q q':OA} {cap cap':Nat} {Y:Wd} (h:SimB w g l c s st tb t q cap Y) {K:Wd->Prop} (k:∀ Z,SimB w g l c s st tb t' q' cap' Z->(∀ j,j≠tb->Z.heap[j]?=Y.heap[j]?)->K Z) :
  SatR ((storeVar 24 ⟨tb,0,none⟩ (.agg (ze t' q' cap').toArray)).run PG Y) fun _ w'=>K w' :=
 zfl (t:=t') (q:=q') (cap:=cap') (UW h.lt) h.x rfl h.p h.o h.g fun Z hZ gZ fZ oZ _=>k Z ⟨hZ,(oZ _ (by have:=h.lt;omega)).trans h.r,fZ,gZ,h.lt,h.g⟩ oZ
theorem SimB.below {tb:Nat} {t:Trm} {q:OA} {cap:Nat} {Y Z:Wd} (h:SimB w g l c s st tb t q cap Y) (hb:Bw Y Z):SimB w g l c s st tb t q cap Z :=
 h.grown (h.p.below hb) (zh hb)
theorem zoC {n:Nat} (hT:zkW g l c s n) (h:ParB g l c s st w) (hf:4*(s.length-st.tok.at_)<=n) :
  Calls PG 162 #[At0 g] w (zkU g l c s w (tightP (zD s) (n+2) st)):=by
 refine zU 36 [At0 g] (.c .p (.s .p (.s (.b (.l (.s .p (.b (.s .p (.c .p (.c .p (.c .p .p)))))))) .p))) Tryz.func162 ?_;obtain⟨R,hR⟩:=nm (tightP (zD s) (n+2) st);rw [<- hR];rw [tightP] at hR;refine⟨Unit,fun _=>⟨[(0,At0 g),(2,At0 w.heap.size)],[]⟩,fun _ X=>AnsB w g l c s st X,⟨(),(cvE rfl rfl),h.below (zba _ _),zt w _,zh (zba _ _),h.lt⟩,?_⟩;rintro _ X hX;refine cmo (znd hT hX.p hf) ?_;rintro e V ⟨t,q,cap,rfl,hk,hV,gV⟩;have hm:=(zbx (s:=s) (n+1)).2.2.2.2 st;rcases hsm:simpleP (zD s) (n+1) st with ⟨r1,st1⟩;rw [hsm] at hk hV hm hR;dsimp only at hk hV hm hR;have hXs:=hlt hX.r;have hVV:=hX.grown hV gV;refine hVV.box rfl fun U hU bU _=>?_;obtain⟨tb,htb⟩:=nm (V.heap.size);rw [<- htb] at hU ⊢;refine⟨Trm×OA×Nat×Bool×PS×Nat,fun y=>⟨[(0,At0 g),(2,At0 w.heap.size),(4,At0 tb),(5,.bool y.2.2.2.1)],[]⟩,
  fun y Y=>SimB w g l c s y.2.2.2.2.1 tb y.1 y.2.1 y.2.2.1 Y /\
   (y.2.2.2.1=true->y.1.name.length<=8192/\KidsT (fun b=>w.heap.size<b/\b≠tb) Y y.2.1 y.1.kids/\R=postsP (zD s) y.2.2.2.2.2 y.1 y.2.2.2.2.1/\s.length-y.2.2.2.2.1.tok.at_+1<=y.2.2.2.2.2) /\
   (y.2.2.2.1=false->R=(none,y.2.2.2.2.1)),
  fun y=>if y.2.2.2.1 then y.2.2.2.2.2+1 else 0,(t,q,cap,r1.isSome,st1,n+1),(cvE rfl rfl),?_,?_⟩
 ·refine⟨hU,fun ho=>?_,fun ho=>?_⟩
  ·cases r1 with
   | none=>cases ho
   | some t1 =>
    obtain⟨e1,e2,e3⟩:=hk t1 rfl;refine⟨e2,(e3.there.kept bU).weak fun b hb=>by omega,by rw [hR,<- e1],?_⟩;have h1:=hm.1;dsimp only;omega
  ·cases r1 with
   | none=>exact hR
   | some t1=>cases ho
 clear hk hm hR hU bU hVV hV gV hT hf hsm hXs hX;rintro⟨t,q,cap,ok,st1,f1⟩ Y ⟨hY,hok,hno⟩;dsimp only at hY hok hno ⊢;refine biE (fun ho=>?_) fun ho=>?_
 ·have ho:ok=true:=ho;subst ho;obtain⟨hn,hk,hR,hf1⟩:=hok rfl;clear hok hno;obtain⟨f',rfl⟩:∃ f',f1=f'+1:=⟨f1-1,by omega⟩;rw [postsP] at hR;refine⟨Unit,fun _=>⟨[(0,At0 g),(2,At0 w.heap.size),(4,At0 tb),(5,.bool true),(6,u8n (zcb st1))],[]⟩,fun _ V=>Y=V,?_,?_⟩
  ·refine⟨[.int .u8 6,.int .u8 7,.int .u8 8],rfl,?_⟩;refine⟨Nat,fun i=>⟨[(0,At0 g),(2,At0 w.heap.size),(4,At0 tb),(5,.bool true),(6,u8n (zeL st1 i)),(15,.agg #[.int .u8 6,.int .u8 7,.int .u8 8]),(16,.int .i64 (i:Nat))],[]⟩,fun i V=>i<=3/\Y=V,fun i=>3-i,0,
    (cvE rfl rfl),⟨Gj _,rfl⟩,?_⟩
   rintro i _ ⟨hi,rfl⟩;refine biE (fun h1=>?_) fun h1=>?_
   ·have h1:(i:Int)<3:=dT h1;have hget:[Value.int .u8 6,.int .u8 7,.int .u8 8][i*1]?=some (u8n (6+i)):=by
     rcases (by omega:i=0\/i=1\/i=2) with rfl | rfl | rfl <;> rfl
    refine⟨i,rfl,by omega,?_⟩;refine zbc hget ⟨6+i,rfl,by omega,?_⟩;refine⟨_,by rw [Gi];exact zgd hY.p.glob (by omega),cmo (zru hY.p (jL.getD (6+i) [])) ?_⟩;rintro e _ ⟨rfl,rfl⟩;refine biE (fun h2=>?_) fun h2=>?_
    ·have h2:isP st1 (jL.getD (6+i) [])=true:=h2;have e:zeL st1 (i+1)=6+i:=(by rw [zeL,GC h2]);exact nxI (by omega) ⟨i+1,⟨.cons rfl (.cons rfl (.cons rfl (.cons rfl (.cons (Gw (fun n:Nat=>some (u8n n)) e.symm) (.cons rfl (.cons rfl .nil)))))),rfl⟩,⟨by omega,rfl⟩,by dsimp only;omega⟩
    ·have h2:isP st1 (jL.getD (6+i) [])=false:=h2;have e:zeL st1 (i+1)=zeL st1 i:=(by rw [zeL,GB (by rw [h2];exact Kv)]);exact nxI (by omega) ⟨i+1,⟨.cons rfl (.cons rfl (.cons rfl (.cons rfl (.cons (Gw (fun n:Nat=>some (u8n n)) e.symm) (.cons rfl (.cons rfl .nil)))))),rfl⟩,⟨by omega,rfl⟩,by dsimp only;omega⟩
   ·have h1:¬ (i:Int)<3:=dF h1;obtain rfl:i=3:=(by omega);exact⟨(),(cvE rfl rfl),rfl⟩
  rintro _ _ rfl;refine⟨Unit,fun _=>⟨[(0,At0 g),(2,At0 w.heap.size),(4,At0 tb),(6,u8n (zcb st1))],[]⟩,fun _ V=>zcb st1≠0/\Y=V,?_,?_⟩
  ·refine biE (fun h2=>?_) fun h2=>?_
   ·have h2:((zcb st1:Nat):Int)=0:=dT h2;rw [GC (by omega)] at hR;refine⟨_,rfl,za hY.x,hlt hY.x,?_⟩;exact hY.ans.fin (by rw [hR];rfl) (by rw [hR]) fun x hx=>by
     rw [hR] at hx;exact⟨(Ui hx).symm,hn,hk.weak fun b hb=>hb.1⟩
   ·have h2:¬ ((zcb st1:Nat):Int)=0:=dF h2;exact⟨(),(cvE rfl rfl),by omega,rfl⟩
  rintro _ _ ⟨hp0,rfl⟩;rw [GB hp0] at hR;have hp8:zcb st1<=8:=zjW st1 3 (by decide);have hlen1:=znw hp0;rcases hne:zal (zD s) st1 with ⟨b,st2⟩;rw [hne] at hR;refine⟨Unit,fun _=>⟨[(0,At0 g),(2,At0 w.heap.size),(4,At0 tb),(5,.bool b),(6,u8n (zcb st1))],[]⟩,fun _ N=>SimB w g l c s st2 tb t q cap N/\KidsT (fun b=>w.heap.size<b/\b≠tb) N q t.kids,?_,?_⟩
  ·refine cmo (zgS hY.p) ?_;rw [hne];rintro e N ⟨rfl,hN,gN⟩;have:=hY.g;exact⟨(),(cvE rfl rfl),hY.grown hN gN,hk.by fun b cs ty fr hb hc=>gN.block b (hlt hc) (by simp;omega)⟩
  have hps:=hY.p.pos;clear hY hk Y;rintro _ N ⟨hN,hk⟩;refine⟨_,rfl,za hN.x,hlt hN.x,⟨by decide,by decide,rfl⟩,ze t q cap,rfl,ze (.mk (UInt8.ofNat (zcb st1)) [] [t]) (some ⟨N.heap.size,0,none⟩) 1,?_,?_⟩
  ·show some [u8n (zcb st1),zx [],.slice (some ⟨N.heap.size,0,none⟩) 1 1]=_;rw [zov (by omega)];rfl
  have hlx:=hlt hN.x;have bN:=zba N (.cells (ze t q cap).toArray 24);have fnb:=zt N (.cells (ze t q cap).toArray 24);refine (hN.below bN).store fun Z hZ oZ=>⟨(.mk (UInt8.ofNat (zcb st1)) [] [t],some ⟨N.heap.size,0,none⟩,1,b,st2,f'),(cvE rfl rfl),⟨hZ,fun hb=>?_,fun hb=>?_⟩,?_⟩
  ·have hb:b=true:=hb;subst hb;have hon:=zmu hne hlen1;have:=hN.lt;refine⟨by show ([]:Bs).length<=_;decide,.one (q:=q) (cap:=cap) ⟨by omega,by omega⟩ ?_ hn ?_,hR,by dsimp only;omega⟩
   ·exact za ((oZ _ (by omega)).trans fnb)
   ·exact (hk.kept bN).by fun b cs ty fr hb hc=>oZ b hb.2
  ·have hb:b=false:=hb;subst hb;exact hR
  ·cases b
   ·show 0<f'+1+1;omega
   ·show f'+1<f'+1+1;omega
 ·have ho:ok=false:=ho;subst ho;have hR:=hno rfl;exact⟨ze zT none 0,rfl,hY.ans.none hR⟩
end
section
variable {g l c:Nat} {s:Bs} {st:PS} {w w2 X:Wd}
theorem zqT {n:Nat} (hT:∀ f,f<n+3->zkW g l c s f):zkW g l c s (n+3):=by
 intro least st w hl5 h hf;refine zU 46 [At0 g,i64 (least:Nat)] (.c .p (.s .p (.s (.b (.l (.s .p (.b (.c .p (.c .p (.c .p (.s .p (.c .p .p)))))))) ) .p))) Tryz.func111 ?_;obtain⟨R,hR⟩:=nm (termP (zD s) (n+3) least st);rw [<- hR];rw [termP] at hR;refine⟨Unit,fun _=>⟨[(0,At0 g),(1,i64 (least:Nat)),(4,At0 w.heap.size)],[]⟩,fun _ X=>AnsB w g l c s st X,⟨(),(cvE rfl rfl),h.below (zba _ _),zt w _,zh (zba _ _),h.lt⟩,?_⟩;rintro _ X hX;refine cmo (zoC (hT n (by omega)) hX.p (by omega)) ?_;rintro e V ⟨t,q,cap,rfl,hk,hV,gV⟩;have hm:=(zbx (s:=s) (n+2)).2.2.1 st;rcases hsm:tightP (zD s) (n+2) st with ⟨r1,st1⟩;rw [hsm] at hk hV hm hR;dsimp only at hk hV hm hR;have hXs:=hlt hX.r;have hVV:=hX.grown hV gV;refine hVV.box rfl fun U hU bU _=>?_;obtain⟨tb,htb⟩:=nm (V.heap.size);rw [<- htb] at hU ⊢;refine⟨Trm×OA×Nat×Bool×PS×Nat,fun y=>⟨[(0,At0 g),(1,i64 (least:Nat)),(4,At0 w.heap.size),(6,At0 tb),(7,.bool y.2.2.2.1)],[]⟩,
  fun y Y=>SimB w g l c s y.2.2.2.2.1 tb y.1 y.2.1 y.2.2.1 Y/\y.2.2.2.2.2<=n+2 /\
   (y.2.2.2.1=true->y.1.name.length<=8192/\KidsT (fun b=>w.heap.size<b/\b≠tb) Y y.2.1 y.1.kids/\R=moreP (zD s) y.2.2.2.2.2 least y.1 y.2.2.2.2.1/\4*(s.length-y.2.2.2.2.1.tok.at_)+1<=y.2.2.2.2.2) /\
   (y.2.2.2.1=false->R=(none,y.2.2.2.2.1)),
  fun y=>if y.2.2.2.1 then y.2.2.2.2.2+1 else 0,(t,q,cap,r1.isSome,st1,n+2),(cvE rfl rfl),?_,?_⟩
 ·refine⟨hU,Gh _,fun ho=>?_,fun ho=>?_⟩
  ·cases r1 with
   | none=>cases ho
   | some t1 =>
    obtain⟨e1,e2,e3⟩:=hk t1 rfl;refine⟨e2,(e3.there.kept bU).weak fun b hb=>by omega,by rw [hR,<- e1],?_⟩;have h1:=hm.1;dsimp only;omega
  ·cases r1 with
   | none=>exact hR
   | some t1=>cases ho
 clear hk hm hR hU bU hVV hV gV hf hsm hXs hX;rintro⟨t,q,cap,ok,st1,f1⟩ Y ⟨hY,hfn,hok,hno⟩;dsimp only at hY hfn hok hno ⊢;refine biE (fun ho=>?_) fun ho=>?_
 ·have ho:ok=true:=ho;subst ho;obtain⟨hn,hk,hR,hf1⟩:=hok rfl;clear hok hno;obtain⟨f',rfl⟩:∃ f',f1=f'+1:=⟨f1-1,by omega⟩;rw [moreP] at hR;have hps:=hY.p.pos;refine⟨Unit,fun _=>⟨[(0,At0 g),(1,i64 (least:Nat)),(4,At0 w.heap.size),(6,At0 tb),(7,.bool true),(8,u8n (qm st1))],[]⟩,fun _ V=>Y=V,?_,?_⟩
  ·refine cmo (zlp hY.p) ?_;rintro e _ ⟨rfl,rfl⟩;exact⟨(),(cvE rfl rfl),rfl⟩
  rintro _ _ rfl;refine⟨Unit,fun _=>⟨[(0,At0 g),(1,i64 (least:Nat)),(4,At0 w.heap.size),(6,At0 tb),(8,u8n (qm st1))],[]⟩,fun _ V=>qm st1≠0/\¬ qm st1-1<least/\Y=V,?_,?_⟩
  ·have stop:(qm st1=0\/qm st1-1<least)->∃ us:List Value,us.length=3/\zq Y ⟨tb,0,none⟩ us/\tb<Y.heap.size /\
     SatR ((storeVar 24 ⟨w.heap.size,0,none⟩ (.agg us.toArray)).run PG Y) fun _ w'=>∃ us:List Value,us.length=3/\zq w' ⟨w.heap.size,0,none⟩ us/\zkU g l c s w R (.returned (jT [.agg us.toArray,.bool true])) w':=by
    intro hc;rw [GC hc] at hR;refine⟨_,rfl,za hY.x,hlt hY.x,?_⟩;exact hY.ans.fin (by rw [hR];rfl) (by rw [hR]) fun x hx=>by
     rw [hR] at hx;exact⟨(Ui hx).symm,hn,hk.weak fun b hb=>hb.1⟩
   refine biE (fun h2=>?_) fun h2=>?_
   ·have h2:((qm st1:Nat):Int)=0:=dT h2;exact brT (stop (.inl (by omega)))
   have h2:¬ ((qm st1:Nat):Int)=0:=dF h2;have hp0:qm st1≠0:=by omega
   obtain⟨_,ho2,ho5,hst⟩:=zh7 hp0;refine⟨qm st1,rfl,by omega,?_⟩;have hsa:=za7 hY.p.glob (k:=qm st1) (by omega);rw [hst] at hsa;refine⟨_,by rw [Gi];exact hsa,?_⟩;refine biE (fun h3=>?_) fun h3=>?_
   ·have h3:((qm st1-1:Nat):Int)<(least:Int):=dT h3;exact stop (.inr (by omega))
   ·have h3:¬ ((qm st1-1:Nat):Int)<(least:Int):=dF h3;exact⟨(),(cvE rfl rfl),hp0,by omega,rfl⟩
  rintro _ _ ⟨hp0,hnl,rfl⟩;obtain⟨hlen1,ho2,ho5,hst⟩:=zh7 hp0;rw [GB (by rintro (h | h);exact hp0 h;exact hnl h)] at hR;rcases hne:zal (zD s) st1 with ⟨b,st2⟩;rw [hne] at hR;refine⟨Unit,fun _=>⟨[(0,At0 g),(1,i64 (least:Nat)),(4,At0 w.heap.size),(6,At0 tb),(8,u8n (qm st1))],[]⟩,fun _ N=>b=true/\SimB w g l c s st2 tb t q cap N/\KidsT (fun b=>w.heap.size<b/\b≠tb) N q t.kids,?_,?_⟩
  ·refine cmo (zgS hY.p) ?_;rw [hne];rintro e N ⟨rfl,hN,gN⟩;have hYN:=hY.grown hN gN;have:=hY.g;refine biE (fun h4=>?_) fun h4=>?_
   ·have h4:(!b)=true:=h4;have h4:b=false:=(by simpa using h4);subst h4;exact⟨ze zT none 0,rfl,hYN.ans.none hR⟩
   ·have h4:(!b)=false:=h4;exact⟨(),(cvE rfl rfl),by simpa using h4,hYN,hk.by fun b cs ty fr hb hc=>gN.block b (hlt hc) (by simp;omega)⟩
  have hon:b=true->st1.tok.at_+1<=st2.tok.at_:=fun hb=>by subst hb;exact zmu hne hlen1
  clear hY hk;rintro _ N ⟨rfl,hN,hk⟩;have hon:=hon rfl;dsimp only at hR;rcases htm:termP (zD s) f' (qm st1) st2 with ⟨r2,st3⟩;rw [htm] at hR;have hm2:=(zbx (s:=s) f').1 (qm st1) st2;rw [htm] at hm2;have hlx:=hlt hN.x;refine⟨Nat×Trm×OA×Nat,fun y=>⟨[(0,At0 g),(1,i64 (least:Nat)),(4,At0 w.heap.size),(6,At0 tb),(7,.bool r2.isSome),(8,u8n (qm st1)),(9,At0 y.1)],[]⟩,fun y P=>SimB w g l c s st3 tb t q cap P/\KidsT (fun b=>w.heap.size<b/\b≠tb) P q t.kids /\
   P.heap[y.1]?=some (.cells (ze y.2.1 y.2.2.1 y.2.2.2).toArray 24 (0,0))/\∀ x,r2=some x->x=y.2.1/\y.2.1.name.length<=8192/\KidsT (fun b=>w.heap.size<b/\b≠tb) P y.2.2.1 y.2.1.kids,?_,?_⟩
  ·obtain⟨M,hM⟩:=nm (N.alloc (.cells (ze zT none 0).toArray 24));have bM:Bw N M:=by rw [hM];exact zba _ _
   have fm:M.heap[N.heap.size]?=some (.cells (ze zT none 0).toArray 24 (0,0)):=by rw [hM];exact zt N _
   have sM:M.heap.size=N.heap.size+1:=by rw [hM];exact wz _ _
   have hNM:=hN.below bM;have hkM:=hk.kept bM;refine⟨qm st1,rfl,by omega,?_⟩;have hsa:=za7 hNM.p.glob (k:=qm st1) (by omega);rw [hst,hM] at hsa;refine⟨_,by rw [Gi];exact hsa,?_⟩;refine⟨((qm st1:Nat):Int),(zi (by omega)).trans (by omega),?_⟩;have hcall:=hT f' (by omega) (qm st1) st2 M ho5 hNM.p (by omega);rw [htm,hM] at hcall;refine cmo hcall ?_;rw [<- hM];rintro e P ⟨u,p,cp,rfl,hku,hP,gP⟩;dsimp only at hku hP;have hgw:=hN.g;have hP2:=hNM.grown hP gP;have fmP:=(gP.block _ (hlt fm) (by have:=hN.lt;simp;omega)).trans fm;have sP:=gP.size;refine zfl (t:=u) (q:=p) (cap:=cp) (by have:=hN.lt;omega) fmP rfl hP hP2.o hgw fun O hO gO fO oO sO=>?_;have hlt9:=hN.lt;refine⟨(N.heap.size,u,p,cp),(cvE rfl rfl),⟨hO,(oO _ (by omega)).trans hP2.r,(oO _ (by omega)).trans hP2.x,gO,hlt9,hgw⟩,?_,fO,fun x hx=>?_⟩
   ·have k1:KidsT (fun b=>(w.heap.size<b/\b≠tb)/\b<N.heap.size) N q t.kids:=hk.there;refine (k1.by fun b cs ty fr hb hc=>?_).weak fun b hb=>hb.1;rw [oO b (by omega),gP.block b (by omega) (by simp;omega),bM.block b hb.2]
   ·obtain⟨e1,e2,e3⟩:=hku x hx;refine⟨e1,e2,(e3.by fun b cs ty fr hb hc=>oO b (by omega)).weak fun b hb=>by omega⟩
  clear hN hk;rintro⟨rb2,u,p,cp⟩ O ⟨hO,hkt,fO,hku⟩;dsimp only at fO hku ⊢;refine⟨_,rfl,za hO.x,hlt hO.x,_,rfl,za fO,hlt fO,⟨by decide,by decide,rfl⟩,ze t q cap++ze u p cp,rfl,ze (.mk (UInt8.ofNat (qm st1)) [] [t,u]) (some ⟨O.heap.size,0,none⟩) 2,?_,?_⟩
  ·show some [u8n (qm st1),zx [],.slice (some ⟨O.heap.size,0,none⟩) 2 2]=_;rw [zov (by omega)];rfl
  have hlo:=hlt hO.x;have bN:=zba O (.cells (ze t q cap++ze u p cp).toArray 24);have fnb:=zt O (.cells (ze t q cap++ze u p cp).toArray 24);refine (hO.below bN).store fun Z hZ oZ=>⟨(.mk (UInt8.ofNat (qm st1)) [] [t,u],some ⟨O.heap.size,0,none⟩,2,r2.isSome,st3,f'),(cvE rfl rfl),⟨hZ,by dsimp only;omega,fun hb=>?_,fun hb=>?_⟩,?_⟩
  ·cases r2 with
   | none=>cases hb
   | some t2 =>
    obtain⟨e1,e2,e3⟩:=hku t2 rfl;have hat:=hm2.1;have:=hO.lt;refine⟨by show ([]:Bs).length<=_;decide,.two (q:=q) (cap:=cap) (p:=p) (cp:=cp) ⟨by omega,by omega⟩ ?_ (by omega) ?_ (by omega) ?_,by rw [hR,<- e1],by dsimp only at hat ⊢;omega⟩
    ·exact za ((oZ _ (by omega)).trans fnb)
    ·exact (hkt.kept bN).by fun b cs ty fr hb hc=>oZ b hb.2
    ·exact (e3.kept bN).by fun b cs ty fr hb hc=>oZ b hb.2
  ·cases r2 with
   | none=>exact hR
   | some t2=>cases hb
  ·show (if r2.isSome then f'+1 else 0)<f'+1+1
   split <;> omega
 ·have ho:ok=false:=ho;subst ho;have hR:=hno rfl;exact⟨ze zT none 0,rfl,hY.ans.none hR⟩
theorem zjy:∀ f,zkW g l c s f:=fun f=>by
 induction f using Nat.strongRecOn with
 | ind f ih =>
  match f,ih with
  | 0,_=>exact fun least st w _ _ hf=>GD hf (by omega)
  | 1,_=>exact fun least st w _ _ hf=>GD hf (by omega)
  | 2,_=>exact fun least st w _ _ hf=>GD hf (by omega)
  | n+3,ih=>exact zqT ih
end
structure Oth (g l c:Nat) (w w':Wd):Prop where
 os:w'.os=w.os
 tape:w'.tape=w.tape
 output:w'.output=w.output
 size:w.heap.size<=w'.heap.size
 block:∀ j,j<w.heap.size->j≠g->j≠l->j≠c->w'.heap[j]?=w.heap[j]?
def zA (k:Nat) (nq:Bs) (t:Trm) (q:OA) (cap:Nat):List Value:=u8n k::zx nq::ze t q cap
def zqx (g l c:Nat) (s:Bs) (w:Wd) (r:Option LineD×PS) (e:Ending) (w':Wd):Prop :=
 ∃ (k:Nat) (nq:Bs) (t:Trm) (q:OA) (cap:Nat),e = .returned (.tuple #[.agg (zA k nq t q cap).toArray,.bool r.1.isSome]) /\
  (∀ x,r.1=some x->x=⟨k,nq,t⟩/\k<=3/\nq.length<=8192/\t.name.length<=8192/\KidsT (fun b=>w.heap.size<=b) w' q t.kids)/\ParB g l c s r.2 w'/\Oth g l c w w'
section
variable {g l c:Nat} {s:Bs} {st:PS} {w w2 w3 X:Wd}
theorem Oth.of_grown (h:w.grownBy w2 (some g)):Oth g l c w w2:=⟨h.os,h.tape,h.output,h.size,fun j hj h1 _ _=>h.block j hj (by simp;omega)⟩
theorem Oth.of_below (h:Bw w w2):Oth g l c w w2:=⟨h.os,h.tape,h.output,h.size,fun j hj _ _ _=>h.block j hj⟩
theorem Oth.trans (h:Oth g l c w w2) (k:Oth g l c w2 w3):Oth g l c w w3 :=
 ⟨k.os.trans h.os,k.tape.trans h.tape,k.output.trans h.output,UX h.size k.size,fun j hj h1 h2 h3=>(k.block j (nL hj h.size) h1 h2 h3).trans (h.block j hj h1 h2 h3)⟩
theorem Oth.then (h:Oth g l c w w2) (k:Below w.heap.size w2 w3):Oth g l c w w3 :=
 ⟨k.os.trans h.os,k.tape.trans h.tape,k.output.trans h.output,UX h.size k.size,fun j hj h1 h2 h3=>(k.block j hj).trans (h.block j hj h1 h2 h3)⟩
theorem zeD (f:Bs->Bool) (nq:Bs):(fun q'=>if q'=nq then some (Value.bool true) else zef f q')=zef (zdb f nq):=by
 funext q;unfold zef zdb;by_cases h:q=nq
 ·rw [GC h,Ux h];rfl
 ·rw [GB h,Ul h];rfl
theorem ParB.other (h:ParB g l c s st w) {m:Nat} (hb:w.grownBy w2 (some m)) (hm:m≠g) (ho:3<m) {st':PS} (e1:st'.tok=st.tok) (e2:st'.nodes=st.nodes) (e3:st'.deep=st.deep) (e4:st'.e=st.e)
  (hl:MapF zbn w2 l (zef st'.lets)) (hc:MapF zbn w2 c (zef st'.checks)):ParB g l c s st' w2:=by
 refine⟨?_,hl,hc,h.ord,h.glob.grown ho hb,h.len,by rw [e1];exact h.pos,by rw [e2];exact h.nod,by rw [e3];exact h.dep⟩;rw [hb.block g h.lt (by simp;omega),h.f];unfold zbQ;rw [e1,e2,e3,e4]
theorem ParB.setL (h:ParB g l c s st w) (nq:Bs) {K:Wd->Prop} (k:∀ Y,ParB g l c s { st with lets:=zdb st.lets nq } Y->w.grownBy Y (some l)->K Y) :
  SatR ((Instr.mapUpdate 105 (.map (some l)) (zx nq) (.bool true)).run PG w) fun _ w'=>K w':=by
 obtain⟨o,hr,hm⟩:=qq zjB Tryz.underlying105 h.lm nq (.bool true);have og:=h.ord;have gr:=zdO w l o;refine SatR.mk hr (k _ (h.other gr (by omega) og.1 rfl rfl rfl rfl (by rw [zeD] at hm;exact hm) (h.cm.same (gr.block c (jN h.cm) (by simp;omega)))) gr)
theorem ParB.setC (h:ParB g l c s st w) (nq:Bs) {K:Wd->Prop} (k:∀ Y,ParB g l c s { st with checks:=zdb st.checks nq } Y->w.grownBy Y (some c)->K Y) :
  SatR ((Instr.mapUpdate 105 (.map (some c)) (zx nq) (.bool true)).run PG w) fun _ w'=>K w':=by
 obtain⟨o,hr,hm⟩:=qq zjB Tryz.underlying105 h.cm nq (.bool true);have og:=h.ord;have gr:=zdO w c o;refine SatR.mk hr (k _ (h.other gr (by omega) (by omega) rfl rfl rfl rfl (h.lm.same (gr.block l (jN h.lm) (by simp;omega))) (by rw [zeD] at hm;exact hm)) gr)
structure LinB (w:Wd) (g l c:Nat) (k:Nat) (nq:Bs) (t:Trm) (q:OA) (cap:Nat) (Y:Wd):Prop where
 p:Y.heap[w.heap.size]?=some (.cells #[At0 g] 132 (0,0))
 r:Y.heap[w.heap.size+1]?=some (.cells (zA 0 [] zT none 0).toArray 49 (0,0))
 x:Y.heap[w.heap.size+2]?=some (.cells (zA k nq t q cap).toArray 49 (0,0))
 o:Oth g l c w Y
theorem LinB.grown {k:Nat} {nq:Bs} {t:Trm} {q:OA} {cap m:Nat} {Y Z:Wd} (h:LinB w g l c k nq t q cap Y) (hm:m=g\/m=l\/m=c) (hg:m<w.heap.size) (hb:Y.grownBy Z (some m)):LinB w g l c k nq t q cap Z:=by
 have sm:∀ {j:Nat} {ob:Obj},w.heap.size<=j->Y.heap[j]?=some ob->Z.heap[j]?=some ob:=fun {j ob} hj hk=>(hb.block j (hlt hk) (by simp;omega)).trans hk;refine⟨sm (Gh _) h.p,sm (by omega) h.r,sm (by omega) h.x,h.o.trans ⟨hb.os,hb.tape,hb.output,hb.size,fun j hj h1 h2 h3=>hb.block j hj (by simp;omega)⟩⟩
theorem LinB.below {k:Nat} {nq:Bs} {t:Trm} {q:OA} {cap:Nat} {Y Z:Wd} (h:LinB w g l c k nq t q cap Y) (hb:Bw Y Z):LinB w g l c k nq t q cap Z :=
 ⟨zb hb h.p,zb hb h.r,zb hb h.x,h.o.trans (.of_below hb)⟩
theorem LinB.store {k:Nat} {nq:Bs} {t:Trm} {q:OA} {cap:Nat} {Y:Wd} (h:LinB w g l c k nq t q cap Y) (hY:ParB g l c s st Y) (hg:g<w.heap.size) {k':Nat} {nq':Bs} {t':Trm} {q':OA} {cap':Nat} {K:Wd->Prop}
  {Te:TypeId} {o:Nat} {v:Value} {iT:TI} (hT:TIok PG Te iT) (hv:v.cells.size=iT.size) (ho:o+v.cells.size<=5) (h1:v.cells.toList.all Value.oneCell'=true)
  (e:(zA k nq t q cap).take o++v.cells.toList++(zA k nq t q cap).drop (o+v.cells.size)=zA k' nq' t' q' cap')
  (kk:∀ Z,ParB g l c s st Z->LinB w g l c k' nq' t' q' cap' Z->(∀ j,j≠w.heap.size+2->Z.heap[j]?=Y.heap[j]?)->Z.heap.size=Y.heap.size->K Z) :
  SatR ((storeVar Te ⟨w.heap.size+2,o,none⟩ v).run PG Y) fun _ w'=>K w':=by
 refine jt hT h.x (o:=o) (v:=v) hv (by show o+v.cells.size<=5;exact ho) h1 fun Z fZ gZ sZ=>?_;have sm:∀ j,j≠w.heap.size+2->Z.heap[j]?=Y.heap[j]?:=fun j hj=>by
  by_cases hl:j<Y.heap.size
  ·exact gZ.block j hl (by simp;omega)
  ·rw [Array.getElem?_eq_none (by omega),Array.getElem?_eq_none (by omega)]
 have bZ:Below (g+1) Y Z:=⟨gZ.os,gZ.tape,gZ.output,gZ.size,fun j hj=>sm j (by omega)⟩;have bW:Below w.heap.size Y Z:=⟨gZ.os,gZ.tape,gZ.output,gZ.size,fun j hj=>sm j (by omega)⟩;refine kk Z (hY.upto bZ) ⟨(sm _ (by omega)).trans h.p,(sm _ (by omega)).trans h.r,?_,h.o.then bW⟩ sm sZ;rw [fZ];have:(zA k nq t q cap).toArray.toList=zA k nq t q cap:=rfl;rw [this,e]
theorem LinB.fin {k:Nat} {nq:Bs} {t:Trm} {q:OA} {cap:Nat} {Y:Wd} (h:LinB w g l c k nq t q cap Y) (hY:ParB g l c s st Y) (hg:g<w.heap.size) {R:Option LineD×PS} {ok:Bool} {k':Nat} {nq':Bs} {t':Trm} {q':OA} {cap':Nat} (e1:R.1.isSome=ok) (e2:R.2=st)
  (e3:∀ x,R.1=some x->x=⟨k',nq',t'⟩/\k'<=3/\nq'.length<=8192/\t'.name.length<=8192/\KidsT (fun b=>w.heap.size+2<b) Y q' t'.kids) :
  SatR ((storeVar 49 ⟨w.heap.size+1,0,none⟩ (.agg (zA k' nq' t' q' cap').toArray)).run PG Y) fun _ w'=>∃ us:List Value,us.length=5/\zq w' ⟨w.heap.size+1,0,none⟩ us/\zqx g l c s w R (.returned (jT [.agg us.toArray,.bool ok])) w':=by
 refine zr (v := .agg (zA k' nq' t' q' cap').toArray) k49 h.r rfl rfl rfl ?_;have b1:=zk (B:=w.heap.size) (Gm _ Y) (Nat.le_succ w.heap.size) (zA k' nq' t' q' cap').toArray;have b2:=zk (B:=g+1) (Gm _ Y) (by omega:g+1<=w.heap.size+1) (zA k' nq' t' q' cap').toArray;refine⟨zA k' nq' t' q' cap',rfl,za (zm h.r),k',nq',t',q',cap',by rw [e1];rfl,fun x hx=>?_,by rw [e2];exact hY.upto b2,h.o.then b1⟩;obtain⟨h1,h2,h3,h4,h5⟩:=e3 x hx;exact⟨h1,h2,h3,h4,(h5.by fun b cs ty fr hb hc=>zp (by omega)).weak fun b hb=>by omega⟩
end
end Go.Proofs.YtnadlhpkpnfmbaaGreatDoor
