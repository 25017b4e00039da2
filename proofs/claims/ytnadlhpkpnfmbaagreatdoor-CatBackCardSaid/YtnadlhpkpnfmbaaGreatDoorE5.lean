/- Contracts of functions, and plain facts, for the law that the last text of this claim proves. -/
import Derived.Test.YtnadlhpkpnfmbaaGreatDoorE4
import Derived.Test.YtnadlhpkpnfmbaaGreatDoorE1
import Derived.Test.YtnadlhpkpnfmbaaGreatDoorE2
import Derived.MapKept
import Derived.Laws.StructEq
import Derived.Shelf.Strings.Builder1
import Derived.Shelf.Strings.Builder2
import Derived.Shelf.Small.Strs
import Derived.Shelf.Strings.BuilderF
import Derived.Shelf.Strings.Search1
import Derived.Shelf.Strings.Search2
import Derived.Shelf.Strings.Search3
import Derived.Shelf.Strings.Count
import Derived.Shelf.LaysM
import Derived.Shelf.Strings.Shaped
import Derived.Shelf.Strings.Prefix
import Derived.Shelf.Strings.Split
import Derived.Shelf.Strings.Replace
import Derived.Shelf.Bits.Mul64
import Derived.Shelf.Strings.Repeat
import Derived.Shelf.Unicode.DecodeSlow
import Derived.Test.YtnadlhpkpnfmbaaGreatDoorProg
set_option linter.unusedSimpArgs false
set_option linter.unusedVariables false
namespace Go.Proofs.YtnadlhpkpnfmbaaGreatDoor
open Go.Vc Go.RowKit Go.Sei
theorem zt4 {bx n:Nat} {w:Wd} {i:Nat} (f:w.heap[bx]?=some (.cells #[i64 (n:Nat)] 3 (0,0))) (hn:n<=1000):Calls PG 132 #[i64 (i:Nat),At0 bx] w fun e w'=>e = .returned (.bool true)/\w'.heap[bx]?=some (.cells #[i64 (n+1:Nat)] 3 (0,0))/\w.grownBy w' (some bx):=by
 refine zD 6 [i64 (i:Nat),At0 bx] Tryz.func132 ?_;exact⟨_,zc (za f) (i:=0) rfl,nxI (by omega) (zu k3 f (o:=0) (v:=i64 (n+1:Nat)) rfl rfl (by show 0<1;decide) rfl fun w' f' g' s'=>⟨rfl,f',g'⟩)⟩
theorem zkI {bs bx s:Nat} {w:Wd} (fs:w.heap[bs]?=some (.cells #[s64 s] 27 (0,0))) (fx:w.heap[bx]?=some (.cells #[i64 (0:Nat)] 3 (0,0))) (hs:s<2^64) (hT:Tz64M w) (hbx:4≠bx) :
  Calls PG 151 #[.func (.func 132) #[] #[At0 bx],At0 bs] w fun e w'=>(∃ v,e = .returned v)/\w'.heap[bx]?=some (.cells #[i64 (zcl s:Nat)] 3 (0,0))/\w.grownBy w' (some bx):=by
 refine zD 16 [.func (.func 132) #[] #[At0 bx],At0 bs] Tryz.func151 ?_;refine⟨_,zc (za fs) (i:=0) rfl,Nat×Nat,fun q=>⟨[(0,.func (.func 132) #[] #[At0 bx]),(3,s64 q.2)],[]⟩,fun q X=>X.heap[bx]?=some (.cells #[i64 (q.1:Nat)] 3 (0,0))/\q.1+zcl q.2=zcl s/\q.2<2^64/\w.grownBy X (some bx),fun q=>q.2,(0,s),(cvE rfl rfl),⟨fx,UX _,hs,jF _ _⟩,?_⟩;rintro⟨n,r⟩ X ⟨f,hn,hr,gX⟩;dsimp only at f hn hr ⊢;have hls:=zeY s;refine biE (fun hc=>?_) fun hc=>?_
 ·have hc:(!decide ((r:Int)=0))=true:=hc;have hc:¬ (r:Int)=0:=by simpa using hc
  have hr0:r≠0:=by omega
  obtain⟨e1,e2,_,_⟩:=ju hr0 hr;have hl:zcl r=zcl (qB r)+1:=by unfold zcl;rw [e1];rfl
  have hTX:Tz64M X:=j7 hT (gX.block _ (zaC hT) (by simpa using hbx));refine cmo (zoA hTX hr0 hr) ?_;rintro e _ ⟨rfl,rfl⟩;have hn64:n<=1000:=by unfold zcl at hn;omega
  refine cmo (zt4 f hn64) ?_;rintro e V ⟨rfl,fV,gV⟩;exact brF ⟨((r-1:Nat):Int),(zei (a:=(r:Int)-1) (by omega)).trans (by omega),((qB r:Nat):Int),jV (a:=r) (b:=r-1) hr (by omega),(n+1,qB r),(cvE rfl rfl),⟨fV,by show n+1+zcl (qB r)=_;omega,by show qB r<_;omega,zg gX gV⟩,e2⟩
 ·have hc:(!decide ((r:Int)=0))=false:=hc;have hc:(r:Int)=0:=by simpa using hc
  obtain rfl:r=0:=by omega
  have h0:zcl 0=0:=rfl;rw [h0,UQ] at hn;exact⟨⟨_,rfl⟩,by rw [<- hn];exact f,gX⟩
theorem zsI {s:Nat} {w:Wd} (hs:s<2^64) (hT:Tz64M w):CB 83 #[s64 s] w (i64 (zcl s:Nat)):=by
 refine z6 11 [s64 s] (.s .p (.c .p .p)) Tryz.func83 ?_;obtain⟨L,hL⟩:=nm (w.heap.size);refine⟨Unit,fun _=>⟨[(0,s64 s),(3,At0 L)],[]⟩,fun _ Y=>Y.heap[L]?=some (.cells #[i64 (0:Nat)] 3 (0,0))/\Y.heap.size=L+1/\Bw w Y,?_,?_⟩
 ·refine zk (X:=w) (v:=i64 0) k3 rfl rfl rfl fun Y hbY fY sY=>?_;have fY:Y.heap[w.heap.size]?=some (.cells #[i64 (0:Nat)] 3 (0,0)):=fY;exact⟨(),⟨.cons rfl (.cons (by rw [hL];rfl) .nil),rfl⟩,by rw [hL];exact fY,by rw [hL];exact sY,hbY⟩
 rintro _ Y ⟨fY,sY,hbY⟩;refine cmo zhr ?_;rintro e _ ⟨rfl,rfl⟩;have hb2:Bw Y (Y.alloc (.cells #[s64 s] 27)):=zba _ _;have htl:=zaC hT;refine cmo (zkI (zA Y _) (zb hb2 fY) hs ((hT.below hbY).below hb2) (by omega)) ?_;rintro e Z ⟨⟨v,rfl⟩,fZ,gZ⟩;exact⟨_,zc (za fZ) (i:=0) rfl,rfl,((zst hbY hb2)).trans (zm gZ (by have:=hbY.size;have:=hb2.size;omega) (by omega))⟩
def zjm (x y:Nat):Int:=if x<y then -1 else if y<x then 1 else 0
theorem zpp {x:Nat} {w:Wd}:Calls PG 131 #[i64 (x:Nat)] w fun e w'=>e = .returned (.bool false)/\w=w':=by
 refine zD 6 [i64 (x:Nat)] Tryz.func131 ?_;exact⟨rb (by simp),rfl⟩
theorem zmj {x y:Nat} {w:Wd}:Calls PG 82 #[i64 (x:Nat),i64 (y:Nat)] w fun e w'=>e = .returned (i64 (zjm x y))/\w=w':=by
 refine zD 20 [i64 (x:Nat),i64 (y:Nat)] Tryz.func82 ?_;refine cmo zpp ?_;rintro e _ ⟨rfl,rfl⟩;refine cmo zpp ?_;rintro e _ ⟨rfl,rfl⟩;refine brF (brF (biE (fun h=>?_) fun h=>?_))
 ·have h:(x:Int)<y:=dT h;exact⟨ri (by unfold zjm;rw [Gx (by omega)]),rfl⟩
 have h:¬ (x:Int)<y:=dF h;refine biE (fun h2=>?_) fun h2=>?_
 ·have h2:(y:Int)<x:=dT h2;exact⟨ri (by unfold zjm;rw [Gw (by omega),Gx (by omega)]),rfl⟩
 ·have h2:¬ (y:Int)<x:=dF h2;exact⟨ri (by unfold zjm;rw [Gw (by omega),Gw (by omega)]),rfl⟩
section
variable {b c L:Nat} {x:ExD} {q:OA} {w:Wd}
theorem zqd {X:Wd} (fx:ExH X b x q c) {i:Nat} (hi:i<48):X.cell? ⟨b,0+99+1+i*1,none⟩=some (s64 (x.co.to i)):=by
 obtain⟨A,T,hA,hE⟩:=zlT x q c;have hR:RelAt X b 99 37 A T x.co:=⟨hA,by rw [<- hE];exact fx⟩;exact hR.cell hi
theorem ztM {u v:Nat} (fx:ExH w b x q c) (fL:w.heap[L]?=some (.cells #[At0 b] 86 (0,0))) (hco:zI x.co.to) (hu:u<48) (hv:v<48) (hT:Tz64M w) :
  CB 81 #[i64 (u:Nat),i64 (v:Nat),At0 L] w (i64 (zjm (zcl (x.co.to v)) (zcl (x.co.to u)))):=by
 refine zD 23 [i64 (u:Nat),i64 (v:Nat),At0 L] Tryz.func81 ?_;refine DrawE.ord [] [0,1,2,3,4,5,6,8,9,10,11,12,13,14,7,15,16,17] (by kernel_rfl) ?_;have hd:Bw w w.drew:=(Gh _ _).drew;refine⟨_,zc (za (hdr fL)) (i:=0) rfl,v,rfl,hv,_,zqd (hdr fx) hv,_,zc (za (hdr fL)) (i:=0) rfl,u,rfl,hu,_,zqd (hdr fx) hu,cmo (zsI (hco v hv) (hT.below hd)) ?_⟩;rintro e X ⟨rfl,hbX⟩;refine⟨hbX,cmo (zsI (hco u hu) ((hT.below hd).below hbX)) ?_⟩;rintro e Y ⟨rfl,hbY⟩;refine⟨hbY,cmo zmj ?_⟩;rintro e _ ⟨rfl,rfl⟩;exact⟨Gh _ _,rfl,(hd.trans hbX).trans (hbY.mono hbX.size)⟩
end
theorem zhd {key:Nat->Nat} {x:Nat}:∀ (B A:List Nat),(∀ y∈B,key y<key x)->j4 key (B++A) x=B++j4 key A x
 | [],A,_=>rfl
 | y::B,A,h=>by
  show (if key y<key x then y::j4 key (B++A) x else x::y::(B++A))=_;rw [Gx (h y Kz),zhd B A fun z hz=>h z (JW _ hz)];rfl
theorem zhc {key:Nat->Nat} {x:Nat}:∀ r:List Nat,(j4 key r x).length=r.length+1
 | []=>rfl
 | y::r=>by
  unfold j4
  split
  ·show (j4 key r x).length+1=_;rw [zhc r];rfl
  ·rfl
theorem zhb {key:Nat->Nat} {x a:Nat}:∀ r:List Nat,a∈j4 key r x↔a=x\/a∈r
 | []=>by simp [j4]
 | y::r=>by
  unfold j4
  split
  ·rw [UF,zhb r,UF];constructor
   ·rintro (h | h | h) <;> simp [h]
   ·rintro (h | h | h) <;> simp [h]
  ·simp
def zen (key:Nat->Nat) (l:List Nat):List Nat:=l.foldl (fun acc x=>j4 key acc x) []
theorem zlc (key:Nat->Nat) (l:List Nat) (x:Nat):zen key (l++[x])=j4 key (zen key l) x:=by
 unfold zen;rw [KT];rfl
theorem zb8 {key:Nat->Nat} {a:Nat}:∀ (l acc:List Nat),a∈l.foldl (fun acc x=>j4 key acc x) acc↔a∈l\/a∈acc
 | [],acc=>by simp
 | x::l,acc=>by
  rw [QO,zb8 l,zhb,UF];constructor
  ·rintro (h | h | h) <;> simp [h]
  ·rintro ((h | h) | h) <;> simp [h]
theorem zb9 {key:Nat->Nat}:∀ (l acc:List Nat),(l.foldl (fun acc x=>j4 key acc x) acc).length=l.length+acc.length
 | [],acc=>by simp
 | x::l,acc=>by
  rw [QO,zb9 l,zhc,Qt];omega
theorem znp {key:Nat->Nat} {l:List Nat} {a:Nat}:a∈zdJ key l↔a∈l:=by
 unfold zdJ;rw [List.mem_reverse,zb8];simp
theorem znq {key:Nat->Nat} (l:List Nat):(zdJ key l).length=l.length:=by
 unfold zdJ;rw [Ki,zb9];rfl
section
variable {b c L g cap:Nat} {x:ExD} {q:OA} {w:Wd} {l:List Nat}
abbrev zcB (x:ExD):Nat->Nat:=fun i=>zcl (x.co.to i)
theorem zha {B:Nat} (ho:OwnS zC 3 B w (some ⟨g,0,none⟩) cap l) (fx:ExH w b x q c) (fL:w.heap[L]?=some (.cells #[At0 b] 86 (0,0))) (hT:Tz64M w) (htg:4≠g) (hco:zI x.co.to) (h48:∀ a∈l,a<48) (hn:l.length<=20) (hn1:1<=l.length) :
  Calls PG 177 #[.slice (some ⟨g,0,none⟩) l.length cap,i64 0,i64 l.length,.func (.func 81) #[] #[At0 L]] w fun e w'=>e = .returned (.tuple #[])/\OwnS zC 3 B w' (some ⟨g,0,none⟩) cap (zdJ (zcB x) l)/\w.grownBy w' (some g):=by
 refine z6 53 [.slice (some ⟨g,0,none⟩) l.length cap,i64 0,i64 l.length,.func (.func 81) #[] #[At0 L]] (.c .p .p) Tryz.func177 ?_;obtain⟨E0,hE0⟩:∃ E0:List (Nat×Value),E0=[(0,.slice (some ⟨g,0,none⟩) l.length cap),(1,i64 0),(2,i64 l.length),(3,.func (.func 81) #[] #[At0 L])]:=⟨_,rfl⟩;have hbg:b≠g:=fun e=>by
  obtain⟨_,_,cur,hc⟩:=zx ho rfl;have hc:w.heap[g]?=_:=hc;rw [<- e,fx] at hc;simp at hc
 have hLg:L≠g:=fun e=>by
  obtain⟨_,_,cur,hc⟩:=zx ho rfl;have hc:w.heap[g]?=_:=hc;rw [<- e,fL] at hc;simp at hc
 refine⟨Unit,fun _=>⟨[(0,.slice (some ⟨g,0,none⟩) l.length cap),(1,i64 0),(2,i64 l.length),(3,.func (.func 81) #[] #[At0 L]),(8,i64 1)],[]⟩,fun _ X=>w=X,?_,?_⟩
 ·exact⟨1,zi (by omega),(),(cvE rfl rfl),rfl⟩
 rintro _ _ rfl;have hl0:l.take 1=(zen (zcB x) (l.take 1)).reverse:=by
  cases l with
  | nil=>simp at hn1
  | cons a l=>rfl
 refine⟨Nat,fun i=>⟨[(0,.slice (some ⟨g,0,none⟩) l.length cap),(1,i64 0),(2,i64 l.length),(3,.func (.func 81) #[] #[At0 L]),(8,i64 (i:Nat))],[]⟩,fun i X=>(1<=i/\i<=l.length)/\OwnS zC 3 B X (some ⟨g,0,none⟩) cap ((zen (zcB x) (l.take i)).reverse++l.drop i)/\w.grownBy X (some g),fun i=>l.length-i,1,
  (cvE rfl rfl),⟨⟨Gc _,hn1⟩,by rw [<- hl0,JQ];exact ho,jF _ _⟩,?_⟩
 rintro i X ⟨⟨hi1,hi⟩,oX,gX⟩;dsimp only;refine biE (fun hc=>?_) fun hc=>?_
 ·have hc:(i:Int)<(l.length:Int):=dT hc;have hil:i<l.length:=by omega
  obtain⟨u,hu⟩:∃ u,l[i]=u:=⟨_,rfl⟩;have hum:u∈l:=by rw [<- hu];exact gM hil
  obtain⟨S,hS⟩:=nm (zen (zcB x) (l.take i));have hSm:∀ a∈S,a<48:=fun a ha=>by
   rw [hS] at ha;have:=(zb8 (key:=zcB x) (l.take i) []).1 ha;rcases this with h | h
   ·exact h48 a (JZ h)
   ·cases h
  have hSl:S.length=i:=by
   rw [hS];unfold zen;rw [zb9,Qv];simp;omega
  have htk:zen (zcB x) (l.take (i+1))=j4 (zcB x) S u:=by
   rw [tsg hil,hu,zlc,<- hS]
  rw [<- hS,<- JD hil,hu] at oX;refine⟨List Nat×List Nat,fun s=>⟨[(0,.slice (some ⟨g,0,none⟩) l.length cap),(1,i64 0),(2,i64 l.length),(3,.func (.func 81) #[] #[At0 L]),(8,i64 (i:Nat)),(9,i64 s.1.length)],[]⟩,fun s Y=>S.reverse=s.1++s.2/\(∀ y∈s.2,zcB x y<zcB x u)/\OwnS zC 3 B Y (some ⟨g,0,none⟩) cap (s.1++u::(s.2++l.drop (i+1)))/\w.grownBy Y (some g),fun s=>s.1.length,(S.reverse,[]),
   ⟨.cons rfl (.cons rfl (.cons rfl (.cons rfl (.cons rfl (.cons (by show _=some (i64 (S.reverse.length:Nat));rw [Ki,hSl];rfl) .nil))))),rfl⟩,⟨by rw [QM],fun y hy=>(by cases hy),oX,gX⟩,?_⟩
  clear oX gX;rintro⟨A,Bs⟩ Y ⟨hsp,hkB,oY,gY⟩;dsimp only at hsp hkB oY ⊢;have hAl:A.length<=i:=by
   have:=Gq List.length hsp;rw [Ki,hSl,lap] at this;omega
  have hdY:Bw Y Y.drew:=(Gh _ _).drew;have fin:∀ {Z:Wd},Bw Y Z->j4 (zcB x) A.reverse u=u::A.reverse->((1<=i+1/\i+1<=l.length)/\OwnS zC 3 B Z (some ⟨g,0,none⟩) cap ((zen (zcB x) (l.take (i+1))).reverse++l.drop (i+1))/\w.grownBy Z (some g)):=fun {Z} hb hins=>by
   refine⟨⟨by omega,hil⟩,?_,q7 gY (hb.mono gY.size)⟩;have h1:S=Bs.reverse++A.reverse:=by rw [<- Kl,<- hsp,List.reverse_reverse]
   rw [htk,h1,zhd _ _ (fun y hy=>hkB y (by simpa using hy)),hins];have h2:(Bs.reverse++u::A.reverse).reverse++l.drop (i+1)=A++u::(Bs++l.drop (i+1)):=by simp
   rw [h2];exact oY.below hb
  refine DrawE.ord [] [0,1,2,3,4,5,6,7,8,9,10,11,12,13,14,15,16] (by kernel_rfl) (biE (fun h=>?_) fun h=>?_)
  ·have h:(0:Int)<(A.length:Int):=dT h;obtain⟨A',y,hA⟩:∃ A' y,A=A'++[y]:=by
    refine⟨A.dropLast,A.getLast (fun e=>by rw [e] at h;simp at h),(List.dropLast_concat_getLast _).symm⟩
   subst hA;have hA'l:(A'++[y]).length=A'.length+1:=by simp
   rw [hA'l] at hAl h ⊢;have hrl:((A'++[y])++u::(Bs++l.drop (i+1))).length=l.length:=by
    have:=Gq List.length hsp;rw [Ki,hSl] at this;simp only [lap,Qt,QR,Qu] at this ⊢;omega
   have hyS:y<48:=hSm y (by
    have:y∈S.reverse:=(by rw [hsp];simp);simpa using this)
   obtain⟨b',o',hq',hb',hat'⟩:=oY.row.at (i:=A'.length) (by rw [hrl];omega);have hbo:b'=g/\o'=0:=by simpa using hq'.symm
   obtain⟨rfl,rfl⟩:=hbo;have c1:Y.cell? ⟨b',0+(A'.length+1)*1,none⟩=some (i64 u):=by
    have:=zc (hat' (A'.length+1) (by rw [hrl];omega)) (i:=0) (v:=i64 u) (by
     have e:((A'++[y])++u::(Bs++l.drop (i+1)))[A'.length+1]?=some u:=by
      rw [Jl (by simp),hA'l,UV];rfl
     rw [gE (by rw [hrl];omega)] at e;rw [Ug e];rfl)
    exact this
   have c2:Y.cell? ⟨b',0+A'.length*1,none⟩=some (i64 y):=by
    have:=zc (hat' A'.length (by rw [hrl];omega)) (i:=0) (v:=i64 y) (by
     have e:((A'++[y])++u::(Bs++l.drop (i+1)))[A'.length]?=some y:=by
      rw [KO,Jl (Gc _),UV];rfl
     rw [gE (by rw [hrl];omega)] at e;rw [Ug e];rfl)
    exact this
   refine⟨A'.length+1,rfl,by omega,?_⟩;refine⟨_,c1,(A'.length:Nat),(zi (by omega)).trans (by omega),A'.length,rfl,by omega,?_⟩;refine⟨_,c2,?_⟩;have fxY:ExH Y b x q c:=(gY.block b (hlt fx) (by simpa using hbg)).trans fx;have fLY:Y.heap[L]?=some (.cells #[At0 b] 86 (0,0)):=(gY.block L (hlt fL) (by simpa using hLg)).trans fL;have hTY:Tz64M Y:=j7 hT (gY.block _ (zaC hT) (by simpa using htg));refine cmo (ztM (hdr fxY) (hdr fLY) hco (h48 u hum) hyS (hTY.below hdY)) ?_;rintro e Z ⟨rfl,hbZ⟩;refine⟨hbZ,?_⟩;have hYZ:=hdY.trans hbZ;refine biE (fun hm=>?_) fun hm=>?_
   ·have hm:zjm (zcl (x.co.to y)) (zcl (x.co.to u))<0:=dT hm;have hk:zcB x y<zcB x u:=by
     unfold zjm at hm;by_cases h1:zcl (x.co.to y)<zcl (x.co.to u)
     ·exact h1
     ·rw [Gw h1] at hm
      split at hm <;> omega
    have oZ:=oY.below hYZ;have gZ:=q7 gY (hYZ.mono gY.size);obtain⟨b2,o2,hq2,hb2,hat2⟩:=oZ.row.at (i:=A'.length) (by rw [hrl];omega);have hbo2:b2=b'/\o2=0:=(by simpa using hq2.symm);obtain⟨rfl,rfl⟩:=hbo2;have dZ:Bw Z Z.drew:=(Gh _ _).drew;have d1:=zcK hYZ c1;have d2:=zcK hYZ c2;refine DrawE.ord [15,17] [0,1,2,3,4,5,6,7,8,9,10,11,12,13,14,15,16,17] (by kernel_rfl) ⟨(A'.length:Nat),(zi (by omega)).trans (by omega),(A'.length:Nat),(zi (by omega)).trans (by omega),A'.length,rfl,by omega,?_⟩;refine⟨_,d2,A'.length+1,rfl,by omega,?_⟩;refine⟨_,d1,A'.length+1,rfl,by omega,?_⟩;refine zi0 (i:=A'.length+1) (v:=y) k3 rfl (oZ.below dZ) (by rw [hrl];omega) fun V oV gV=>⟨A'.length,rfl,by omega,?_⟩;refine zi0 (i:=A'.length) (v:=u) k3 rfl oV (by rw [QS,hrl];omega) fun U oU gU=>?_;have e1:(((A'++[y])++u::(Bs++l.drop (i+1))).set (A'.length+1) y).set A'.length u=A'++u::((y::Bs)++l.drop (i+1)):=by
     rw [KO,JP _ _ (by omega),Jw,JP _ _ (by omega),UV];rfl
    rw [e1] at oU;refine⟨(A'.length:Nat),(zi (by omega)).trans (by omega),(A',y::Bs),(cvE rfl rfl),⟨by rw [hsp];simp,fun z hz=>?_,oU,zg (zg (q7 gZ (dZ.mono gZ.size)) gV) gU⟩,by show A'.length<_;omega⟩;rcases UF.1 hz with hz | hz
    ·rw [hz];exact hk
    ·exact hkB z hz
   ·have hm:¬ zjm (zcl (x.co.to y)) (zcl (x.co.to u))<0:=dF hm;have hk:¬ zcB x y<zcB x u:=fun h=>hm (by unfold zjm;rw [Gx h];decide);refine nxI (by omega) ⟨i+1,(cvE rfl rfl),fin hYZ ?_,zdc (by omega)⟩;rw [Kl];exact Gw hk
  ·have h:¬ (0:Int)<(A.length:Int):=dF h;have hA0:A=[]:=List.length_eq_zero_iff.1 (by omega);subst hA0;exact brF (nxI (by omega) ⟨i+1,(cvE rfl rfl),fin hdY rfl,zdc (by omega)⟩)
 ·have hc:¬ (i:Int)<(l.length:Int):=dF hc;obtain rfl:i=l.length:=by omega
  rw [Qx,Qn,QM] at oX;exact⟨rfl,oX,gX⟩
end
theorem zuj:∃ G,TyEq PG 33 true 6 2 G/\∀ f:Nat->UInt8,G (seg 6 fun i=>u8 (f i)):=by
 refine⟨_,.array (m:=6) (by decide) Tryz.underlying33 (fun w=>Tryz.isAgg33 w) (jr (by kernel_rfl) (by kernel_rfl)).1 (by kernel_rfl) tU8,fun f i hi=>⟨((f i).toNat:Int),?_⟩⟩;unfold qw;have h:=zc0 (n:=6) (fun i=>u8 (f i)) hi;rw [Gd];have hl:i<(seg 6 fun i=>u8 (f i)).length:=by rw [zG];exact hi
 rw [<- JD hl,List.take_succ_cons,Ur];rw [gE hl] at h;rw [Ug h];rfl
theorem zps {f g:Nat->UInt8}:seg 6 (fun i=>u8 (f i))=seg 6 (fun i=>u8 (g i))↔((List.range 6).all fun l=>decide (f l=g l))=true:=by
 rw [Qk];constructor
 ·intro h i hi;have hi:=Uq.1 hi;have h3:=zc0 (n:=6) (fun i=>u8 (f i)) hi;rw [h,zc0 (n:=6) (fun i=>u8 (g i)) hi] at h3;have h4:=Ug h3;unfold u8 at h4;injection h4 with _ h5;exact Ut (qV.1 h5).symm
 ·intro h;unfold seg;refine Kj fun i hi=>?_;rw [dT (h i hi)]
theorem zp6 (x y:Operand) (f g:Nat->UInt8) (w:Wd):(do eqGuard .eql 33 x y (.agg (seg 6 fun i=>u8 (f i)).toArray) (.agg (seg 6 fun i=>u8 (g i)).toArray);binOp .eql 33 (.agg (seg 6 fun i=>u8 (f i)).toArray) (.agg (seg 6 fun i=>u8 (g i)).toArray)).run PG w = .ok (.bool ((List.range 6).all fun l=>decide (f l=g l))) w:=by
 obtain⟨G,h1,h2⟩:=zuj;have:=zlU h1 9998 rfl (by kernel_rfl) (zG 6 _) (zG 6 _) (h2 f) (h2 g) x y w;rw [this,ze2 zps,Bool.decide_eq_true]
section
variable {b c L g cap:Nat} {x:ExD} {q:OA} {w:Wd} {l:List Nat}
theorem zjK {B:Nat} (ho:OwnS zC 3 B w (some ⟨g,0,none⟩) cap l) (fx:ExH w b x q c) (fL:w.heap[L]?=some (.cells #[At0 b] 86 (0,0))) (hT:Tz64M w) (htg:4≠g) (hco:zI x.co.to) (h48:∀ a∈l,a<48) (hn:l.length<=19) (hn1:1<=l.length) :
  Calls PG 130 #[.slice (some ⟨g,0,none⟩) l.length cap,i64 l.length,.func (.func 81) #[] #[At0 L]] w fun e w'=>e = .returned (.tuple #[])/\OwnS zC 3 B w' (some ⟨g,0,none⟩) cap (zdJ (zcB x) l)/\w.grownBy w' (some g):=by
 refine zD 63 [.slice (some ⟨g,0,none⟩) l.length cap,i64 l.length,.func (.func 81) #[] #[At0 L]] Tryz.func130 ?_;refine⟨Unit,fun _=>⟨[(0,.slice (some ⟨g,0,none⟩) l.length cap),(1,i64 l.length),(2,.func (.func 81) #[] #[At0 L]),(6,i64 20),(7,i64 0),(8,i64 20)],[]⟩,fun _ X=>w=X,fun _=>0,(),(cvE rfl rfl),rfl,?_⟩;rintro _ _ rfl;refine brN (Uj (by omega)) (cmo (zha ho fx fL hT htg hco h48 (by omega) hn1) ?_);rintro e X ⟨rfl,oX,gX⟩;refine⟨Unit,fun _=>⟨[(1,i64 l.length),(6,i64 20)],[]⟩,fun _ Y=>X=Y,fun _=>0,(),(cvE rfl rfl),rfl,?_⟩;rintro _ _ rfl;exact brN (Uj (by omega)) ⟨rfl,oX,gX⟩
theorem zlL {q:OA} {n m:Nat} (hm:m<=1000):Calls PG 177 #[.slice q n cap,i64 (m:Nat),i64 (m:Nat),.func (.func 81) #[] #[At0 L]] w fun e w'=>e = .returned (.tuple #[])/\w=w':=by
 refine zD 53 [.slice q n cap,i64 (m:Nat),i64 (m:Nat),.func (.func 81) #[] #[At0 L]] Tryz.func177 ?_;refine nxI (by omega) ⟨Unit,fun _=>⟨[(2,i64 (m:Nat)),(8,i64 ((m+1:Nat):Int))],[]⟩,fun _ X=>w=X,fun _=>0,(),(cvE rfl rfl),rfl,?_⟩;rintro _ _ rfl;exact brN (Uj (by omega)) ⟨rfl,rfl⟩
theorem zno {B:Nat} (ho:OwnS zC 3 B w (some ⟨g,0,none⟩) cap l) (fx:ExH w b x q c) (fL:w.heap[L]?=some (.cells #[At0 b] 86 (0,0))) (hT:Tz64M w) (htg:4≠g) (hco:zI x.co.to) (h48:∀ a∈l,a<48) (hn:l.length<=20) (hn1:1<=l.length) :
  Calls PG 130 #[.slice (some ⟨g,0,none⟩) l.length cap,i64 l.length,.func (.func 81) #[] #[At0 L]] w fun e w'=>e = .returned (.tuple #[])/\OwnS zC 3 B w' (some ⟨g,0,none⟩) cap (zdJ (zcB x) l)/\w.grownBy w' (some g):=by
 by_cases h19:l.length<=19
 ·exact zjK ho fx fL hT htg hco h48 h19 hn1
 have hn20:l.length=20:=by omega
 refine zD 63 [.slice (some ⟨g,0,none⟩) l.length cap,i64 l.length,.func (.func 81) #[] #[At0 L]] Tryz.func130 ?_;refine⟨Bool,fun k=>⟨[(0,.slice (some ⟨g,0,none⟩) l.length cap),(1,i64 l.length),(2,.func (.func 81) #[] #[At0 L]),(6,i64 20),(7,i64 (if k=true then (0:Nat) else l.length:Nat)),(8,i64 (if k=true then l.length else 40:Nat))],[]⟩,fun k X=>(k=true/\w=X)\/(k=false/\OwnS zC 3 B X (some ⟨g,0,none⟩) cap (zdJ (zcB x) l)/\w.grownBy X (some g)),fun k=>if k=true then 1 else 0,true,⟨.cons rfl (.cons rfl (.cons rfl (.cons rfl (.cons rfl (.cons (by rw [hn20];rfl) .nil))))),rfl⟩,.inl ⟨rfl,rfl⟩,?_⟩;rintro k X (⟨rfl,rfl⟩ | ⟨rfl,oX,gX⟩)
 ·refine brE (Ut (by show ((l.length:Nat):Int)<=(l.length:Int);omega)) (cmo (zha ho fx fL hT htg hco h48 hn hn1) ?_);rintro e X ⟨rfl,oX,gX⟩;refine⟨40,by rw [hn20];rfl,?_⟩;exact⟨false,(cvE rfl rfl),.inr ⟨rfl,oX,gX⟩,by decide⟩
 ·refine brN (Uj (by show ¬ ((40:Nat):Int)<=(l.length:Int);omega)) (cmo (zlL (m:=l.length) (by omega)) ?_);rintro e _ ⟨rfl,rfl⟩;refine⟨Unit,fun _=>⟨[(1,i64 l.length),(6,i64 20)],[]⟩,fun _ Y=>X=Y,fun _=>0,(),(cvE rfl rfl),rfl,?_⟩;rintro _ _ rfl;exact brN (Uj (by omega)) ⟨rfl,oX,gX⟩
theorem zhR {B:Nat} (ho:OwnS zC 3 B w (some ⟨g,0,none⟩) cap l) (fx:ExH w b x q c) (fL:w.heap[L]?=some (.cells #[At0 b] 86 (0,0))) (hT:Tz64M w) (htg:4≠g) (hco:zI x.co.to) (h48:∀ a∈l,a<48) (hn:l.length<=20) (hn1:1<=l.length) :
  Calls PG 80 #[.slice (some ⟨g,0,none⟩) l.length cap,.func (.func 81) #[] #[At0 L]] w fun e w'=>e = .returned (.tuple #[])/\OwnS zC 3 B w' (some ⟨g,0,none⟩) cap (zdJ (zcB x) l)/\w.grownBy w' (some g):=by
 refine zD 9 [.slice (some ⟨g,0,none⟩) l.length cap,.func (.func 81) #[] #[At0 L]] Tryz.func80 ?_;refine cmo (zno ho fx fL hT htg hco h48 hn hn1) ?_;rintro e X ⟨rfl,h1,h2⟩;exact⟨rfl,h1,h2⟩
theorem zn3 {l:List Nat} (h:0<l.length):l.headD 48=l[0]:=by
 cases l with
 | nil=>simp at h
 | cons a r=>rfl
theorem zop {k a:Nat} (h:a∈zcZ x k):a<x.ev.length:=by
 unfold zcZ at h;exact Uq.1 (QV.1 h).1
theorem zmA {k a:Nat} (h:a∈qo x k):a<x.ev.length:=zop (znp.1 h)
theorem ztv (q:OA) (c:Nat):((exC x q c).drop 99).take 49=ze x.co:=by
 obtain⟨A,T,hA,hE⟩:=zlT x q c;show ((exC { x with co:=x.co } q c).drop 99).take 49=_;rw [hE,<- hA,Un,Jg (by rw [zf];decide),JE (by rw [zf];decide)]
theorem zrJ (q:OA) (c:Nat):((exC x q c).drop 327).take 6=seg 6 fun i=>u8 (x.mem i):=by
 obtain⟨A,T,hA,hE⟩:=zpY x q c [];have:=hE x.mem;rw [QM] at this;show ((exC { x with mem:=x.mem } q c).drop 327).take 6=_;rw [this,<- hA,Un,Jg (by rw [zG];decide),JE (by rw [zG];decide)]
abbrev zqy (X:Wd) (b:Nat) (f:Nat->UInt8):Prop:=X.heap[b]?=some (.cells (seg 6 fun i=>u8 (f i)).toArray 33 (0,0))
theorem zod {locs:Nat} (fx:ExH w b x q c) (hv:ExV w x q) (hlo:locs<=6) (hne:∀ l,l<locs->zcZ x l≠[]) (hT:Tz64M w) :
  CB 43 #[At0 b,i64 locs] w (.bool (zb0 x locs)):=by
 refine z6 87 [At0 b,i64 locs] (.c .p (.c .p (.c .p (.c .p .p)))) Tryz.func43 ?_;obtain⟨L,hL⟩:=nm (w.heap.size);have hbw:=hlt fx;have hn:=hv.n;have htl:=zaC hT;refine⟨Unit,fun _=>⟨[(1,i64 locs),(2,At0 L)],[]⟩,fun _ X=>X.heap[L]?=some (.cells #[At0 b] 86 (0,0))/\X.heap.size=L+1/\Bw w X,⟨(),⟨.cons rfl (.cons (by rw [hL];rfl) .nil),rfl⟩,by rw [hL];exact zA w _,by rw [hL];exact wz _ _,(zba w _)⟩,?_⟩;rintro _ X ⟨fL,sX,hbX⟩;refine⟨Unit,fun _=>⟨[(1,i64 locs),(2,At0 L),(5,At0 (L+1))],[]⟩,fun _ Y=>qj Y (L+1) ⟨x.ev.length,fun _=>0⟩/\Y.heap.size=L+2/\Bw X Y,?_,?_⟩
 ·refine⟨_,zc (za fL) (i:=0) rfl,_,zc (za (zb hbX fx)) (i:=0) rfl,ze ⟨x.ev.length,fun _=>0⟩,by kernel_rfl,?_⟩;refine zk (X:=X) (v := .agg (ze ⟨x.ev.length,fun _=>0⟩).toArray) k30 (zf _) (by kernel_rfl) (zK _) fun Z hbZ fZ sZ=>?_;rw [sX] at fZ sZ;exact⟨(),⟨.cons rfl (.cons rfl (.cons (by rw [<- sX];rfl) .nil)),rfl⟩,fZ,sZ,hbZ⟩
 rintro _ Y ⟨fT,sY,hbY⟩;refine⟨Unit,fun _=>⟨[(1,i64 locs),(2,At0 L),(5,At0 (L+1)),(6,At0 (L+2))],[]⟩,fun _ Z=>zqy Z (L+2) (fun _=>0)/\qj Z (L+1) ⟨x.ev.length,fun _=>0⟩/\Z.heap[L]?=some (.cells #[At0 b] 86 (0,0))/\Z.heap.size=L+3/\Bw w Z,?_,?_⟩
 ·exact⟨(),⟨.cons rfl (.cons rfl (.cons rfl (.cons (by rw [<- sY];rfl) .nil))),rfl⟩,by rw [<- sY];exact zA Y _,qy _ fT,qy _ (zb hbY fL),by rw [wz,sY],((zst hbX hbY)).alloc (by have:=hbX.size;have:=hbY.size;omega) _⟩
 clear fL sX hbX fT sY hbY;clear X Y;rintro _ X ⟨fM,fT,fL,sX,hbX⟩;obtain⟨P0,hP0⟩:∃ P0:RelD×(Nat->UInt8),P0=(⟨x.ev.length,fun _=>0⟩,fun _=>0):=⟨_,rfl⟩;have hco:zb0 x locs=match zkO x locs 0 P0 with
  | none=>false
  | some p=>zci p.1 x.co&&(List.range 6).all fun l=>decide (p.2 l=x.mem l):=by rw [hP0];rfl
 refine⟨RelD×(Nat->UInt8),fun P=>⟨[(2,At0 L),(5,At0 (L+1)),(6,At0 (L+2))],[]⟩,fun P Z=>zkO x locs 0 P0=some P/\zqy Z (L+2) P.2/\qj Z (L+1) P.1/\Z.heap[L]?=some (.cells #[At0 b] 86 (0,0))/\Bw w Z,?_,?_⟩
 ·refine⟨Nat×(RelD×(Nat->UInt8)),fun s=>⟨[(2,At0 L),(5,At0 (L+1)),(6,At0 (L+2)),(17,i64 locs),(18,i64 (s.1:Nat))],[]⟩,fun s Z=>s.1<=locs/\zkO x (locs-s.1) s.1 s.2=zkO x locs 0 P0/\zI s.2.1.to/\zqy Z (L+2) s.2.2/\qj Z (L+1) s.2.1/\Z.heap[L]?=some (.cells #[At0 b] 86 (0,0))/\Bw w Z/\L+3<=Z.heap.size,fun s=>locs-s.1,(0,P0),
   (cvE rfl rfl),⟨Ge _,rfl,by rw [hP0];exact fun i _=>(by show 0<_;decide),by rw [hP0];exact fM,by rw [hP0];exact fT,fL,hbX,by omega⟩,?_⟩
  clear fM fT fL sX hbX;rintro⟨l,P⟩ Z ⟨hl,hgo,hPw,fM,fT,fL,hbZ,sZ⟩;dsimp only at hl hgo hPw fM fT sZ ⊢;refine biE (fun hc=>?_) fun hc=>?_
  ·have hc:(l:Int)<(locs:Int):=dT hc;have hll:l<locs:=by omega
   have hstep:zkO x (locs-l) l P=if (qo x l).headD 48=l then zkO x (locs-(l+1)) (l+1) (za6 (qo x l) P.1,upd P.2 l (zg5 x.ev (qo x l))) else none:=by
    rw [show locs-l=(locs-(l+1))+1 by omega];rfl
   refine⟨_,zc (za fL) (i:=0) rfl,_,zc (za (zb hbZ fx)) (i:=0) rfl,?_⟩;obtain⟨pr,hpr⟩:∃ pr:Nat->Bool,pr=fun i=>decide ((evA x i).k=2)&&decide ((evA x i).l.toNat=l):=⟨_,rfl⟩;refine⟨Nat×OA×Nat,fun s=>⟨[(2,At0 L),(5,At0 (L+1)),(6,At0 (L+2)),(7,i64 (l:Nat)),(8,.slice s.2.1 ((List.range s.1).filter pr).length s.2.2),(17,i64 locs),(18,i64 (l:Nat)),(24,.slice q x.ev.length c),(25,i64 x.ev.length),(26,i64 (s.1:Nat))],[]⟩,fun s V=>s.1<=x.ev.length/\OwnS zC 3 Z.heap.size V s.2.1 s.2.2 ((List.range s.1).filter pr)/\Bw Z V,fun s=>x.ev.length-s.1,(0,none,0),
    (cvE rfl rfl),⟨Ge _,OwnS.nil,Gh _ _⟩,?_⟩
   rintro⟨k,ps,cs⟩ V ⟨hk,oV,hbV⟩;dsimp only at hk oV ⊢;have hVs:=hbV.size;refine biE (fun hc=>?_) fun hc=>?_
   ·have hc:(k:Int)<(x.ev.length:Int):=dT hc;have hkl:k<x.ev.length:=(by omega);have hbwV:=zst hbZ hbV;obtain⟨bq,oq,hqe,hb,hat⟩:=zca (hv.ev.below hbwV) hkl;rw [zea] at hat;have hfl:(List.range (k+1)).filter pr=(List.range k).filter pr++if pr k=true then [k] else []:=by
     rw [QY,Kv,Qo,List.filter_nil]
    have hprk:pr k=(decide ((evA x k).k=2)&&decide ((evA x k).l.toNat=l)):=(by rw [hpr]);have hll2:((List.range k).filter pr).length<=k:=by
     have:=JL pr (List.range k);rw [KV] at this;exact this
    obtain⟨e,he⟩:=nm (evA x k);rw [<- he] at hat hprk;have eq0:some (Value.slice q x.ev.length c)=some (Value.slice (some ⟨bq,oq,none⟩) x.ev.length c):=(by rw [hqe]);subst hqe;refine⟨k,rfl,hkl,evE.enc e,rfl,hat,hb,zk (X:=V) (v := .agg (evE.enc e).toArray) zd3 rfl rfl (Qk.2 fun u hu=>evE.one e u hu) fun U hbU fU sU=>?_⟩;have fU:U.heap[V.heap.size]?=some (.cells (evE.enc e).toArray 158 (0,0)):=fU;have oU:=oV.below hbU;have hbU2:=hbV.trans (hbU.mono hVs);have hUs:=hbU2.size;have skip:pr k=false->(k+1<=x.ev.length/\OwnS zC 3 Z.heap.size U ps cs ((List.range (k+1)).filter pr)/\Bw Z U):=fun h=>⟨hkl,by rw [hfl,h];simpa using oU,hbU2⟩;have zbL:pr k=false->((List.range (k+1)).filter pr).length=((List.range k).filter pr).length:=fun h=>by rw [hfl,h];simp
    refine⟨u8 e.k,zc (za fU) (i:=1) rfl,biE (fun h1=>?_) fun h1=>?_⟩
    ·have h1:e.k=2:=qV.1 (dT h1);refine⟨u8 e.l,zc (za fU) (i:=2) rfl,(e.l.toNat:Int),qA _,biE (fun h2=>?_) fun h2=>?_⟩
     ·have h2:(e.l.toNat:Int)=(l:Int):=dT h2;have hp1:pr k=true:=(by rw [hprk,Ut h1,Ut (by omega:e.l.toNat=l)];rfl);rw [Gx hp1] at hfl;refine⟨⟨by decide,by decide,rfl⟩,zC.enc k,rfl,?_⟩;have hb2:Bw U (U.alloc (.cells (zC.enc k).toArray 3)):=zba _ _;have sb2:=hb2.size;unfold zeC zav;show SatR _ _;refine zqr (oU.below hb2) (qF zC k) (by omega) (by omega) fun p' c' S oS gS hat2=>?_;rw [zaH] at gS;rw [<- hfl] at oS ⊢;exact nxI (by omega) ⟨(k+1,p',c'),(cvE rfl rfl),⟨hkl,oS,hbU2.trans ((hb2.mono hUs).trans (q6 (oU.below hb2) (by omega) (Gc _) gS))⟩,zdc (by omega)⟩
     ·have h2:¬ (e.l.toNat:Int)=(l:Int):=dF h2;have hp0:pr k=false:=(by rw [hprk,Uj (by omega:¬ e.l.toNat=l),Uk]);exact nxI (by omega) ⟨(k+1,ps,cs),⟨.cons rfl (.cons rfl (.cons rfl (.cons rfl (.cons (by show _=some (Value.slice ps ((List.range (k+1)).filter pr).length cs);rw [zbL hp0];rfl) (.cons rfl (.cons rfl (.cons rfl (.cons rfl (.cons rfl .nil))))))))),rfl⟩,skip hp0,zdc (by omega)⟩
    ·have h1:¬ e.k=2:=fun e2=>(dF h1) (by rw [e2];rfl);have hp0:pr k=false:=(by rw [hprk,Uj h1];rfl);exact brF (nxI (by omega) ⟨(k+1,ps,cs),⟨.cons rfl (.cons rfl (.cons rfl (.cons rfl (.cons (by show _=some (Value.slice ps ((List.range (k+1)).filter pr).length cs);rw [zbL hp0];rfl) (.cons rfl (.cons rfl (.cons rfl (.cons rfl (.cons rfl .nil))))))))),rfl⟩,skip hp0,zdc (by omega)⟩)
   have hc:¬ (k:Int)<(x.ev.length:Int):=dF hc;obtain rfl:k=x.ev.length:=by omega
   have hwr:(List.range x.ev.length).filter pr=zcZ x l:=by rw [hpr];rfl
   rw [hwr] at oV ⊢;have hwn:=hne l hll;have hw1:1<=(zcZ x l).length:=List.length_pos_iff.2 hwn;have hw19:(zcZ x l).length<=20:=by
    have:=JL pr (List.range x.ev.length);rw [hwr,KV] at this;omega
   have hps:∃ g,ps=some ⟨g,0,none⟩:=by
    rcases oV.inv with ⟨_,_,h⟩ | ⟨g,cur,h,_⟩
    ·exact (hwn h).elim
    ·exact⟨g,h⟩
   obtain⟨g,rfl⟩:=hps;have hg:=(zx oV rfl).1;have hg:Z.heap.size<=g:=hg;have hbwV:=zst hbZ hbV;have hZw:=hbZ.size;refine cmo (zhR oV (zb hbwV fx) (zb hbV fL) (hT.below hbwV) (by omega) hv.co (fun a ha=>by have:=zop ha;omega) hw19 hw1) ?_;rintro e U ⟨rfl,oU,gU⟩;have oU:OwnS zC 3 Z.heap.size U (some ⟨g,0,none⟩) cs (qo x l):=oU;have hrl:(qo x l).length=(zcZ x l).length:=znq _;have hbU:Bw Z U:=hbV.trans (zm gU hVs hg);have hbwU:=hbZ.trans (hbU.mono hZw);have hU0:0<(qo x l).length:=by omega
   obtain⟨bq,oq,hqe,hbq,hatq⟩:=oU.row.at hU0;have hbo:bq=g/\oq=0:=by simpa using hqe.symm
   obtain⟨rfl,rfl⟩:=hbo;rw [<- hrl];have hh:(qo x l).headD 48=(qo x l)[0]:=zn3 hU0;refine⟨0,rfl,hU0,i64 (qo x l)[0],by have:=zc (hatq 0 hU0) (i:=0) (v:=i64 (qo x l)[0]) rfl;exact this,biE (fun h=>?_) fun h=>?_⟩
   ·have h:(!decide (((qo x l)[0]:Int)=(l:Int)))=true:=h;have h:¬ ((qo x l)[0]:Int)=(l:Int):=(by simpa using h);rw [hstep,Gw (by rw [hh];omega)] at hgo;refine⟨rb ?_,hbwU⟩;rw [hco,<- hgo]
   have h:(!decide (((qo x l)[0]:Int)=(l:Int)))=false:=h;have h:((qo x l)[0]:Int)=(l:Int):=by simpa using h
   rw [hstep,Gx (by rw [hh];omega)] at hgo;have fTU:=zb hbU fT;have hRT:RelAt U (L+1) 0 30 [] [] P.1:=⟨rfl,by simpa using fTU⟩;have hrk48:∀ a∈qo x l,a<48:=fun a ha=>by have:=zmA ha;omega
   have hLZ:=hlt fT;have hL2Z:=hlt fM;refine cmo (zpx hRT hPw oU.row (fun a ha=>by cases ha;exact⟨hbq,by show bq≠L+1;omega⟩) (by omega) hrk48) ?_;rintro e S ⟨rfl,hRS,gS⟩;have fTS:qj S (L+1) (za6 (qo x l) P.1):=by simpa using hRS.cells
   have hbS:Bw w S:=hbwU.trans (zm gS hbwU.size (by omega));have fMS:=(gS.block (L+2) (hlt (zb hbU fM)) (by simp)).trans (zb hbU fM);have fLS:=(gS.block L (hlt (zb hbU fL)) (by simp)).trans (zb hbU fL);have oS:=qh oU fTU (by decide) gS;obtain⟨j,hj⟩:∃ j,j+1=(qo x l).length:=⟨(qo x l).length-1,by omega⟩;have hjl:j<(qo x l).length:=by omega
   obtain⟨b6,o6,hp6,hl6,hat6⟩:=oS.row.at hjl;have hbo6:b6=bq/\o6=0:=by simpa using hp6.symm
   obtain⟨rfl,rfl⟩:=hbo6;obtain⟨t,ht⟩:∃ t,(qo x l)[j]=t:=⟨_,rfl⟩;have htev:t<x.ev.length:=zmA (by rw [<- ht];exact gM hjl);have hlast:(qo x l).getLastD 0=t:=by
    rw [List.getLastD_eq_getLast?,List.getLast?_eq_getElem?,show (qo x l).length-1=j by omega,gE hjl,ht];rfl
   obtain⟨b7,o7,hp7,hl7,hat7⟩:=zca (hv.ev.below hbS) htev;rw [zea] at hat7;have hlV:zg5 x.ev (qo x l)=(evA x t).v:=by
    show (x.ev.getD ((qo x l).getLastD 0) ev0).v=_;rw [hlast];rfl
   have dS:Bw S S.drew:=(Gh _ _).drew;refine DrawE.ord [15] [0,1,2,3,4,5,6,7,8,9,10,11,12,13,14,15] (by kernel_rfl) ⟨_,zc (za (hdr fLS)) (i:=0) rfl,_,zc (za (hdr (zb hbS fx))) (i:=0) rfl,(j:Nat),(zi (by omega)).trans (by omega),j,rfl,hjl,i64 t,by have:=zc (zw dS (hat6 j hjl)) (i:=0) (v:=i64 t) (by rw [ht];rfl);exact this,?_⟩;rw [hp7];refine⟨t,rfl,htev,u8 (evA x t).v,by have:=zc (zw dS hat7) (i:=3) (v:=u8 (evA x t).v) rfl;exact this,l,rfl,by omega,?_⟩;refine zu k5 (hdr fMS) (o:=0+l*1) (v:=u8 (evA x t).v) rfl rfl (by rw [zG];omega) rfl fun T fT2 gT sT=>?_;have gT2:S.grownBy T (some (L+2)):=zg (zh dS) gT;have e8:=zmv (n:=6) (fun i=>u8 (P.2 i)) (fun i=>u8 (upd P.2 l (evA x t).v i)) (i:=l) (by omega) rfl (fun j hj=>by rw [zaA _ _ hj]);rw [qZ] at e8;rw [Gd,UX,e8] at fT2;exact nxI (by omega) ⟨(l+1,(za6 (qo x l) P.1,upd P.2 l (evA x t).v)),(cvE rfl rfl),⟨hll,by rw [<- hlV];exact hgo,zit hPw hrk48,fT2,(gT2.block (L+1) (hlt fTS) (by simp)).trans fTS,(gT2.block L (hlt fLS) (by simp)).trans fLS,hbS.trans (zm gT2 hbS.size (by omega)),by have:=gT2.size;have:=gS.size;have:=hbU.size;omega⟩,zdc (by omega)⟩
  ·have hc:¬ (l:Int)<(locs:Int):=dF hc;obtain rfl:l=locs:=by omega
   rw [UV] at hgo;exact⟨P,(cvE rfl rfl),hgo.symm,fM,fT,fL,hbZ⟩
 rintro P Z ⟨hgo,fM,fT,fL,hbZ⟩;have hco2:zb0 x locs=(zci P.1 x.co&&(List.range 6).all fun l=>decide (P.2 l=x.mem l)):=by rw [hco,hgo]
 refine DrawE.ord [] [0,1,2,3,4,5,6,7,8,9,10,11,12,13,14,15] (by kernel_rfl) ?_;have dZ:Bw Z Z.drew:=(Gh _ _).drew;refine⟨ze P.1,zf _,za (hdr fT),hlt (hdr fT),_,zc (za (hdr fL)) (i:=0) rfl,?_⟩;have fxZ:=hdr (zb hbZ fx);refine⟨ze x.co,zf _,by have h:=zM (n:=99) (m:=49) (za fxZ);rw [show (exC x q c).toArray.toList=exC x q c from rfl,ztv] at h;exact h,hlt fxZ,_,fun w=>zmZ _ _ P.1 x.co w,?_⟩;have fin:Bw w Z.drew:=zst hbZ dZ;refine biE (fun h=>?_) fun h=>?_
 ·have h:zci P.1 x.co=true:=h;exact⟨seg 6 (fun i=>u8 (P.2 i)),zG _ _,za (hdr fM),hlt (hdr fM),_,zc (za (hdr fL)) (i:=0) rfl,seg 6 (fun i=>u8 (x.mem i)),zG _ _,by have h:=zM (n:=327) (m:=6) (za fxZ);rw [show (exC x q c).toArray.toList=exC x q c from rfl,zrJ] at h;exact h,hlt fxZ,_,fun w=>zp6 _ _ P.2 x.mem w,rb (by rw [hco2,h,Uz]),fin⟩
 ·have h:zci P.1 x.co=false:=h;exact⟨rb (by rw [hco2,h,Ul]),fin⟩
end
section
variable {b c:Nat} {x:ExD} {q:OA} {w:Wd}
theorem ziS {X:Wd} {o:Nat} {A T:List Value} {r:RelD} (fx:ExH X b x q c) (hA:A.length=o) (hE:exC x q c=A++(ze r++T)) {i:Nat} (hi:i<48):X.cell? ⟨b,o+1+i*1,none⟩=some (s64 (r.to i)):=by
 have hR:RelAt X b o 37 A T r:=⟨hA,by rw [<- hE];exact fx⟩;exact hR.cell hi
theorem zs5 {X:Wd} (fx:ExH X b x q c) {i:Nat} (hi:i<48):X.cell? ⟨b,0+1+1+i*1,none⟩=some (s64 (x.po.to i)):=by
 obtain⟨A,T,hA,hE⟩:=zpX x q c [];exact ziS fx hA (by rw [<- hE,QM]) hi
theorem ztA {X:Wd} (fx:ExH X b x q c) {i:Nat} (hi:i<48):X.cell? ⟨b,0+148+1+i*1,none⟩=some (s64 (x.dt.to i)):=by
 obtain⟨A,T,hA,hE⟩:=zpZ x q c [];exact ziS fx hA (by rw [<- hE,QM]) hi
theorem ztK {X:Wd} (fx:ExH X b x q c) {i:Nat} (hi:i<48):X.cell? ⟨b,0+197+1+i*1,none⟩=some (s64 (x.ct.to i)):=by
 obtain⟨A,T,hA,hE⟩:=zp0 x q c [];exact ziS fx hA (by rw [<- hE,QM]) hi
theorem zsX {X:Wd} (fx:ExH X b x q c) {i:Nat} (hi:i<48):X.cell? ⟨b,0+246+1+i*1,none⟩=some (s64 (x.rm.to i)):=by
 obtain⟨A,T,hA,hE⟩:=zpW x q c [];exact ziS fx hA (by rw [<- hE,QM]) hi
theorem n64 {a b:Nat} (h:(!decide ((a:Int)=(b:Int)))=true):¬ a=b:=fun e=>by
 rw [e] at h;simp at h
theorem y64 {a b:Nat} (h:(!decide ((a:Int)=(b:Int)))=false):a=b:=by
 have h:(a:Int)=(b:Int):=by simpa using h
 exact UB h
theorem n8 {a d:UInt8} (h:(!decide ((a.toNat:Int)=(d.toNat:Int)))=true):¬ a=d:=fun e2=>by
 rw [e2] at h;simp at h
theorem y8 {a d:UInt8} (h:(!decide ((a.toNat:Int)=(d.toNat:Int)))=false):a=d:=qV.1 (by simpa using h)
def wrG (x:ExD) (k:Nat):Nat:=(List.range k).foldl (fun s i=>if (evA x i).k=2 then s|||2^i else s) 0
theorem zjA (x:ExD) (k:Nat):wrG x (k+1)=if (evA x k).k=2 then wrG x k|||2^k else wrG x k:=by
 unfold wrG;rw [QY,KT];rfl
theorem ziL (x:ExD):∀ k,k<=64->wrG x k<2^64
 | 0,_=>by show 0<_;decide
 | k+1,h=>by
  rw [zjA]
  split
  ·exact KY (ziL x k (by omega)) (zZ (by omega))
  ·exact ziL x k (by omega)
theorem zlY (fx:ExH w b x q c) (hv:ExV w x q) (hrn:x.rm.n=x.ev.length) (hok:okR x.rm=true) (hT:Tz64M w) :
  CB 44 #[At0 b] w (.bool (zbd x)):=by
 refine z6 130 [At0 b] (.s .p (.s .p (.c .p .p))) Tryz.func44 ?_;have hn:=hv.n;obtain⟨W,hW⟩:=nm (zor x);have hWG:W=wrG x x.ev.length:=by rw [hW];rfl
 have hW64:W<2^64:=by rw [hWG];exact ziL x _ (by omega)
 refine⟨Unit,fun _=>⟨[(0,At0 b),(3,s64 W),(4,s64 0)],[]⟩,fun _ X=>Bw w X,?_,?_⟩
 ·refine⟨_,zc (za fx) (i:=0) rfl,?_⟩;refine⟨Nat,fun k=>⟨[(0,At0 b),(3,s64 (wrG x k)),(4,s64 0),(17,.slice q x.ev.length c),(18,i64 x.ev.length),(19,i64 (k:Nat))],[]⟩,fun k X=>k<=x.ev.length/\Bw w X,fun k=>x.ev.length-k,0,
   (cvE rfl rfl),⟨Ge _,Gh _ _⟩,?_⟩
  rintro k X ⟨hk,hbX⟩;dsimp only;refine biE (fun hc=>?_) fun hc=>?_
  ·have hc:(k:Int)<(x.ev.length:Int):=dT hc;have hkl:k<x.ev.length:=by omega
   obtain⟨bq,oq,hqe,hb,hat⟩:=zca (hv.ev.below hbX) hkl;rw [zea] at hat;obtain⟨e,he⟩:=nm (evA x k);have hs:=zjA x k;rw [<- he] at hat hs;subst hqe;refine⟨k,rfl,hkl,evE.enc e,rfl,hat,hb,zk (X:=X) (v := .agg (evE.enc e).toArray) zd3 rfl rfl (Qk.2 fun u hu=>evE.one e u hu) fun Y hbY fY sY=>?_⟩;have fY:Y.heap[X.heap.size]?=some (.cells (evE.enc e).toArray 158 (0,0)):=fY;have hbY2:=zst hbX hbY;refine⟨u8 e.k,zc (za fY) (i:=1) rfl,biE (fun h=>?_) fun h=>?_⟩
   ·have h:e.k=2:=qV.1 (dT h);rw [Gx h] at hs;exact⟨by omega,((2^k:Nat):Int),jU (e:=k) (by omega),((wrG x k|||2^k:Nat):Int),zao (ziL x k (by omega)) (zZ (by omega)),nxI (by omega) ⟨k+1,⟨.cons rfl (.cons (by show _=some (s64 (wrG x (k+1)));rw [hs];rfl) (.cons rfl (.cons rfl (.cons rfl (.cons rfl .nil))))),rfl⟩,⟨hkl,hbY2⟩,zdc (by omega)⟩⟩
   ·have h:¬ e.k=2:=fun e2=>(dF h) (by rw [e2];rfl);rw [Gw h] at hs;exact nxI (by omega) ⟨k+1,⟨.cons rfl (.cons (by show _=some (s64 (wrG x (k+1)));rw [hs];rfl) (.cons rfl (.cons rfl (.cons rfl (.cons rfl .nil))))),rfl⟩,⟨hkl,hbY2⟩,zdc (by omega)⟩
  ·have hc:¬ (k:Int)<(x.ev.length:Int):=dF hc;obtain rfl:k=x.ev.length:=by omega
   exact⟨(),⟨.cons rfl (.cons (by show _=some (s64 W);rw [hWG];rfl) (.cons rfl .nil)),rfl⟩,hbX⟩
 rintro _ X hbX;refine⟨_,zc (za (zb hbX fx)) (i:=0) rfl,?_⟩;have hdep:zbd x=zht x W 0 x.ev 0:=by rw [hW];rfl
 refine⟨Nat×Nat,fun s=>⟨[(0,At0 b),(3,s64 W),(4,s64 s.2),(35,.slice q x.ev.length c),(36,i64 x.ev.length),(37,i64 (s.1:Nat))],[]⟩,fun s X=>s.1<=x.ev.length/\zht x W s.1 (x.ev.drop s.1) s.2=zbd x/\s.2<2^64/\Bw w X,fun s=>x.ev.length-s.1,(0,0),
  (cvE rfl rfl),⟨Ge _,hdep.symm,by decide,hbX⟩,?_⟩
 clear hbX;rintro⟨k,h⟩ X ⟨hk,hgo,hh,hbX⟩;dsimp only at hk hgo hh ⊢;refine biE (fun hc=>?_) fun hc=>?_
 ·have hc:(k:Int)<(x.ev.length:Int):=dT hc;have hkl:k<x.ev.length:=by omega
  have hk48:k<48:=by omega
  obtain⟨bq,oq,hqe,hb,hat⟩:=zca (hv.ev.below hbX) hkl;rw [zea] at hat;obtain⟨e,he⟩:=nm (evA x k);rw [<- he] at hat;have hdrp:x.ev.drop k=e::x.ev.drop (k+1):=by
   rw [<- JD hkl,he];unfold evA;rw [gDe,gE hkl];rfl
  rw [hdrp] at hgo;unfold zht at hgo;obtain⟨d,hd⟩:=nm (x.dt.to k);obtain⟨t,ht⟩:=nm (x.ct.to k);obtain⟨r,hr⟩:=nm (x.rm.to k);obtain⟨po,hpo⟩:=nm (x.po.to k);dsimp only at hgo;rw [<- hd,<- ht,<- hr,<- hpo] at hgo;have d64:d<2^64:=by rw [hd];exact hv.dt k hk48
  have t64:t<2^64:=by rw [ht];exact hv.ct k hk48
  have r64:r<2^64:=by rw [hr];exact hv.rm k hk48
  have p64:po<2^64:=by rw [hpo];exact hv.po k hk48
  have dt64:=KY d64 t64;have dtr64:=KY dt64 r64;have dr64:=KY d64 r64;subst hqe;refine⟨k,rfl,hkl,evE.enc e,rfl,hat,hb,zk (X:=X) (v := .agg (evE.enc e).toArray) zd3 rfl rfl (Qk.2 fun u hu=>evE.one e u hu) fun Y hbY fY sY=>?_⟩;have fY:Y.heap[X.heap.size]?=some (.cells (evE.enc e).toArray 158 (0,0)):=fY;have hbY2:=zst hbX hbY;have dY:Bw Y Y.drew:=(Gh _ _).drew;have fxY:=hdr (zb hbY2 fx);have fYd:=hdr fY;have hbD:=zst hbY2 dY;have no:∀ {Z:Wd},Bw w Z->zbd x=false->(Ending.returned (.bool false)=Ending.returned (.bool (zbd x))/\Bw w Z):=fun {Z} hb h=>⟨rb h.symm,hb⟩;refine DrawE.ord [] [0,1,2,3,4,5,6,7,8,9,10,11,12,13,14,15,16,17,18,19,20,21,22,23] (by kernel_rfl) ⟨k,rfl,hk48,s64 d,by rw [hd];exact ztA fxY hk48,?_⟩;refine⟨k,rfl,hk48,s64 t,by rw [ht];exact ztK fxY hk48,?_⟩;refine⟨k,rfl,hk48,s64 r,by rw [hr];exact zsX fxY hk48,?_⟩;refine⟨_,zao d64 t64,_,zao dt64 r64,biE (fun h1=>?_) fun h1=>?_⟩
  ·have h1:d|||t|||r=0:=UB (dT h1);rw [Gx h1] at hgo;exact nxI (by omega) ⟨(k+1,h),(cvE rfl rfl),⟨hkl,hgo,hh,hbD⟩,zdc (by omega)⟩
  have h1:¬ d|||t|||r=0:=fun e2=>(dF h1) (by rw [e2];rfl);rw [Gw h1] at hgo;refine⟨u8 e.k,zc (za fYd) (i:=1) rfl,biE (fun h2=>?_) fun h2=>?_⟩
  ·have h2:¬ e.k=1:=n8 (d:=1) h2;rw [Gw fun h=>h2 h.1] at hgo;exact brT (brT (no hbD hgo.symm))
  have h2:e.k=1:=y8 (d:=1) h2;refine⟨_,zao d64 r64,_,zcd dr64 hW64,biE (fun h3=>?_) fun h3=>?_⟩
  ·have h3:¬ jx (d|||r) W=0:=n64 (b:=0) h3;rw [Gw fun h=>h3 h.2.1] at hgo;exact brT (no hbD hgo.symm)
  have h3:jx (d|||r) W=0:=y64 (b:=0) h3;refine⟨_,zao d64 t64,_,zao dt64 r64,k,rfl,hk48,s64 po,by rw [hpo];exact zs5 fxY hk48,?_⟩;refine⟨_,zcd dtr64 p64,biE (fun h4=>?_) fun h4=>?_⟩
  ·have h4:¬ jx (d|||t|||r) po=0:=n64 (b:=0) h4;rw [Gw fun h=>h4 h.2.2] at hgo;exact no hbD hgo.symm
  have h4:jx (d|||t|||r) po=0:=y64 (b:=0) h4;rw [Gx ⟨h2,h3,h4⟩] at hgo;refine cmo (zaM r64 (hT.below hbD)) ?_;rintro e2 Z ⟨rfl,hbZ⟩;have hbZ2:=zst hbD hbZ;by_cases hr0:r=0
  ·have e1:(els r).isEmpty=true:=by rw [hr0];rfl
   rw [e1];rw [Gx hr0] at hgo;exact brF (nxI (by omega) ⟨(k+1,h),(cvE rfl rfl),⟨hkl,hgo,hh,hbZ2⟩,zdc (by omega)⟩)
  rw [Gw hr0] at hgo;obtain⟨hhd,hem⟩:=zbD hr0 r64;rw [hhd,hem];have hmem:=zm3 hr0 r64;have hbit:r.testBit (ctz r)=true:=(zgi.1 hmem).2;have hvl:ctz r<x.ev.length:=by
   have:=(zi3 hok hv.rm hk48 (by rw [<- hr];exact hbit)).1;rw [hrn] at this;omega
  obtain⟨v,hvd⟩:=nm (ctz r);rw [<- hvd] at hvl hgo ⊢;refine brT ?_;have fZ:=zb hbZ fYd;have dZ:Bw Z Z.drew:=(Gh _ _).drew;have hbZ3:=zst hbZ2 dZ;refine DrawE.ord [] [0,1,2,3,4,5,6,7,8,9,10,11,12,13,14,15,16,17,18,19,20,21,22,23] (by kernel_rfl) ⟨by omega,((2^v:Nat):Int),jU (e:=v) (by omega),biE (fun h5=>?_) fun h5=>?_⟩
  ·have h5:¬ r=2^v:=n64 h5;rw [Gw fun h=>h5 h.1] at hgo;exact brT (brT (no hbZ3 hgo.symm))
  have h5:r=2^v:=y64 h5;refine⟨by omega,_,zf3 (a:=h) (k:=v) (by omega),_,jV (a:=h/2^v) (b:=1) (KE (Nat.div_le_self _ _) hh) (by decide),?_⟩;rw [zjq]
  cases hb5:h.testBit v with
  | true =>
   rw [Gw fun h=>(by rw [hb5] at h;cases h.2.1)] at hgo;exact brT (brT (no hbZ3 hgo.symm))
  | false =>
   refine brF ?_;obtain⟨bq2,oq2,hqe2,hb2,hat2⟩:=zca (hv.ev.below hbZ3) hvl;rw [zea] at hat2;obtain⟨f,hf⟩:=nm (evA x v);rw [<- hf] at hat2 hgo;refine⟨_,zc (za (zb hbZ3 fx)) (i:=0) rfl,v,rfl,hvl,?_⟩;simp only [KZ,Uv,Gp] at hqe2;rw [<- hqe2.1,<- hqe2.2] at hat2;refine⟨u8 f.l,by have:=zc hat2 (i:=2) (v:=u8 f.l) rfl;exact this,u8 e.l,zc (za (hdr fZ)) (i:=2) rfl,biE (fun h6=>?_) fun h6=>?_⟩
   ·have h6:¬ f.l=e.l:=n8 h6;rw [Gw fun h=>h6 h.2.2] at hgo;exact no hbZ3 hgo.symm
   have h6:f.l=e.l:=y8 h6;rw [Gx ⟨h5,hb5,h6⟩] at hgo;exact⟨_,zao hh r64,nxI (by omega) ⟨(k+1,h|||r),(cvE rfl rfl),⟨hkl,hgo,KY hh r64,hbZ3⟩,zdc (by omega)⟩⟩
 ·have hc:¬ (k:Int)<(x.ev.length:Int):=dF hc;obtain rfl:k=x.ev.length:=by omega
  rw [Qn] at hgo;exact⟨rb hgo,hbX⟩
end
theorem zkG {locs:Nat}:∀ (ev:List Ev) (i:Nat) (t:Int) (n:Nat),zkH locs i ev t n=true->∀ j,i+j<locs->j<ev.length->∃ v,ev.getD j ev0=⟨-1,2,UInt8.ofNat (i+j),v,0,0,0⟩
 | [],_,_,_,_,_,_,h=>by simp at h
 | e::ev,i,t,n,h,j,hj,hl=>by
  unfold zkH at h;rw [Gx (by omega:i<locs)] at h;by_cases he:e=⟨-1,2,UInt8.ofNat i,e.v,0,0,0⟩
  ·rw [Gx he] at h
   cases j with
   | zero=>exact⟨e.v,by rw [UQ];exact he⟩
   | succ j =>
    obtain⟨v,hv⟩:=zkG ev (i+1) t n h j (by omega) (by simpa using hl);exact⟨v,by rw [show i+(j+1)=i+1+j by omega];exact hv⟩
  ·rw [Gw he] at h;cases h
theorem zpL (ev:List Ev):zaq ev<=ev.length:=by
 unfold zaq
 induction ev with
 | nil=>exact Gc _
 | cons e ev ih =>
  rw [Km]
  split
  ·rw [Qt,Qt];omega
  ·exact Ge _
theorem zoo {x:ExD} {locs:Nat} (h:jJ x.ev locs=true) (hl:locs<=x.ev.length) (h6:locs<=6):∀ l,l<locs->zcZ x l≠[]:=by
 intro l hll he;obtain⟨v,hv⟩:=zkG x.ev 0 0 0 h l (by omega) (by omega);have:l∈zcZ x l:=by
  unfold zcZ;rw [QV,Uq];refine⟨by omega,?_⟩;have h2:evA x l=⟨-1,2,UInt8.ofNat (0+l),v,0,0,0⟩:=hv;rw [h2,bAT,dE,dE];refine⟨rfl,?_⟩;show (UInt8.ofNat (0+l)).toNat=l;rw [UX,KH];exact QC (by omega)
 rw [he] at this
 cases this
abbrev zcQ (x:ExD):List RelD:=[x.po,x.rf,x.co,x.dt,x.ct,x.rm]
theorem zrI (x:ExD) (q:OA) (c:Nat) {i:Nat} (hi:i<6):((exC x q c).drop (1+49*i)).take 49=ze ((zcQ x).getD i x.po):=by
 have g:∀ {A T:List Value} {o:Nat} {r:RelD},A.length=o->exC x q c=A++(ze r++T)->((exC x q c).drop o).take 49=ze r:=fun {A T o r} hA hE=>by
  rw [hE,<- hA,Un,Jg (by rw [zf];decide),JE (by rw [zf];decide)]
 match i,hi with
 | 0,_=>obtain⟨A,T,hA,hE⟩:=zpX x q c [];exact g hA (by rw [<- hE,QM];rfl)
 | 1,_=>obtain⟨A,T,hA,hE⟩:=zsz x q c [];exact g hA (by rw [<- hE,QM];rfl)
 | 2,_=>obtain⟨A,T,hA,hE⟩:=zsB x q c [];exact g hA (by rw [<- hE,QM];rfl)
 | 3,_=>obtain⟨A,T,hA,hE⟩:=zpZ x q c [];exact g hA (by rw [<- hE,QM];rfl)
 | 4,_=>obtain⟨A,T,hA,hE⟩:=zp0 x q c [];exact g hA (by rw [<- hE,QM];rfl)
 | 5,_=>obtain⟨A,T,hA,hE⟩:=zpW x q c [];exact g hA (by rw [<- hE,QM];rfl)
theorem zq5 (L:Nat) {k:Nat} (hk:k<6):((List.range 6).map (fun i=>Value.pointer (some ⟨L,0+(1+49*i),none⟩)))[k]?=some (.pointer (some ⟨L,0+(1+49*k),none⟩)):=by
 rw [KU,Kg hk];rfl
def okX (x:ExD) (r:RelD):Bool:=decide (r.n=x.ev.length)&&okR r
section
variable {c:Nat} {x:ExD} {q:OA} {w:Wd}
theorem zff {X:Wd} {b:Nat} (fx:ExH X b x q c) {i:Nat} (hi:i<6):zo X ⟨b,0+(1+49*i),none⟩ (ze ((zcQ x).getD i x.po)):=by
 have h:=zM (n:=1+49*i) (m:=49) (za fx);rw [show (exC x q c).toArray.toList=exC x q c from rfl,zrI x q c hi] at h;exact h
theorem ExV.rel (hv:ExV w x q) {i:Nat} (hi:i<6):zI ((zcQ x).getD i x.po).to:=by
 match i,hi with
 | 0,_=>exact hv.po
 | 1,_=>exact hv.rf
 | 2,_=>exact hv.co
 | 3,_=>exact hv.dt
 | 4,_=>exact hv.ct
 | 5,_=>exact hv.rm
theorem ze7 (hv:ExV w x q) (hT:Tz64M w):CB 10 #[.agg (exC x q c).toArray] w (.bool (ja x)):=by
 refine z6 70 [.agg (exC x q c).toArray] (.c .p (.c .p (.c .p (.c .p (.c .p .p))))) Tryz.func10 ?_;obtain⟨L,hL⟩:=nm (w.heap.size);have hn:=hv.n;refine⟨Unit,fun _=>⟨[(1,At0 L)],[]⟩,fun _ X=>ExH X L x q c/\Bw w X,⟨(),⟨.cons (by rw [hL];rfl) .nil,rfl⟩,by rw [hL];exact zA w _,(zba w _)⟩,?_⟩;rintro _ X ⟨fx,hbX⟩;obtain⟨n,hnn⟩:=nm (zaq x.ev);refine⟨Unit,fun _=>⟨[(1,At0 L)],[]⟩,fun _ Y=>X=Y,?_,?_⟩
 ·refine⟨_,zc (za fx) (i:=0) rfl,biE (fun h=>?_) fun _=>?_⟩
  ·have h:(48:Int)<(x.ev.length:Nat):=dT h;omega
  exact⟨(),(cvE rfl rfl),rfl⟩
 rintro _ _ rfl;refine⟨Unit,fun _=>⟨[(1,At0 L),(3,i64 (n:Nat))],[]⟩,fun _ Y=>Bw X Y,?_,?_⟩
 ·refine⟨_,zc (za fx) (i:=0) rfl,cmo (zlM (hv.below hbX).ev (by omega)) ?_⟩;rintro e Y ⟨rfl,hbY⟩;rw [<- hnn];exact⟨(),(cvE rfl rfl),hbY⟩
 rintro _ Y hbY;have hvX:=hv.below hbX;have hnl:n<=x.ev.length:=by rw [hnn];exact zpL _
 have hbwY:=zst hbX hbY;have hr0:decide (x.ev.length<=48)=true:=Ut (by omega);have no:∀ {Z:Wd},Bw w Z->ja x=false->(Ending.returned (.bool false)=Ending.returned (.bool (ja x))/\Bw w Z):=fun {Z} hb h=>⟨rb h.symm,hb⟩;refine⟨Unit,fun _=>⟨[(1,At0 L),(3,i64 (n:Nat))],[]⟩,fun _ Z=>jJ x.ev n=true/\(1<=n/\n<=6)/\ExH Z L x q c/\Bw w Z,?_,?_⟩
 ·refine biE (fun h1=>?_) fun h1=>?_
  ·have h1:(n:Int)<1:=dT h1;refine brT (brT (no hbwY ?_));unfold ja;rw [<- hnn,Uj (by omega:¬ 1<=n),Ul,Uk]
  have h1:¬ (n:Int)<1:=dF h1;refine biE (fun h2=>?_) fun h2=>?_
  ·have h2:(6:Int)<(n:Int):=dT h2;refine brT (no hbwY ?_);unfold ja;rw [<- hnn,Uj (by omega:¬ n<=6),Ul,Uk,Uk]
  have h2:¬ (6:Int)<(n:Int):=dF h2;have hn1:decide (1<=n)=true:=Ut (by omega);have hn6:decide (n<=6)=true:=Ut (by omega);have fY:=zb hbY fx;refine⟨_,zc (za fY) (i:=0) rfl,cmo (zhP (locs:=n) (hvX.below hbY).ev (by omega) (by omega)) ?_⟩;rintro e Z ⟨rfl,hbZ⟩;have hbwZ:=zst hbwY hbZ;refine biE (fun h3=>?_) fun h3=>?_
  ·have h3:jJ x.ev n=false:=by
    have h3:(!jJ x.ev n)=true:=h3;simpa using h3
   refine no hbwZ ?_;unfold ja;rw [<- hnn,h3,Ul,Uk,Uk,Uk]
  have h3:jJ x.ev n=true:=by
   have h3:(!jJ x.ev n)=false:=h3;simpa using h3
  exact⟨(),(cvE rfl rfl),h3,by omega,zb hbZ fY,hbwZ⟩
 rintro _ Z ⟨h3,⟨h1,h2⟩,fZ,hbwZ⟩;clear fx hbX hbY hbwY hvX;have hn1:decide (1<=n)=true:=Ut h1;have hn6:decide (n<=6)=true:=Ut h2;have hright:ja x=(zch x&&(zci x.po (poR x.ev)&&(zbQ x&&(zb0 x n&&zbd x)))):=by
  unfold ja;rw [<- hnn,hr0,hn1,hn6,h3];rfl
 have hrels:zch x=(zcQ x).all (okX x):=rfl;refine⟨Unit,fun _=>⟨[(1,At0 L),(3,i64 (n:Nat))],[]⟩,fun _ U=>zch x=true/\ExH U L x q c/\Bw w U,?_,?_⟩
 ·refine⟨⟨by decide,by decide,rfl⟩,(List.range 6).map (fun i=>Value.pointer (some ⟨L,0+(1+49*i),none⟩)),rfl,?_⟩;obtain⟨g,hg⟩:=nm (Z.heap.size);refine⟨Nat,fun k=>⟨[(1,At0 L),(3,i64 (n:Nat)),(32,.slice (some ⟨g,0,none⟩) 6 6),(33,i64 6),(34,i64 (k:Nat))],[]⟩,fun k U=>k<=6/\((zcQ x).take k).all (okX x)=true/\U.heap[g]?=some (.cells ((List.range 6).map (fun i=>Value.pointer (some ⟨L,0+(1+49*i),none⟩))).toArray 82 (0,0))/\ExH U L x q c/\Bw w U,fun k=>6-k,0,
   ⟨.cons rfl (.cons rfl (.cons (by rw [hg];rfl) (.cons rfl (.cons rfl .nil)))),rfl⟩,⟨Ge _,rfl,by rw [hg];exact zA Z _,qy _ fZ,hbwZ.alloc hbwZ.size _⟩,?_⟩
  clear hg fZ hbwZ;rintro k U ⟨hk,hall,fg,fU,hbU⟩;dsimp only;refine biE (fun hc=>?_) fun hc=>?_
  ·have hc:(k:Int)<6:=dT hc;have hk6:k<6:=by omega
   obtain⟨r,hr⟩:=nm ((zcQ x).getD k x.po);have hkl:k<(zcQ x).length:=hk6;have htk:(zcQ x).take (k+1)=(zcQ x).take k++[r]:=by
    rw [tsg hkl,hr,gDe,gE hkl];rfl
   have hrw:zI r.to:=by rw [hr];exact hv.rel hk6
   have hcel:zo U ⟨L,0+(1+49*k),none⟩ (ze r):=by rw [hr];exact zff fU hk6
   have dU:Bw U U.drew:=(Gh _ _).drew;have hrm:r∈zcQ x:=by
    rw [hr,gDe,gE hkl];exact gM hkl
   have bad:∀ {Z:Wd},Bw w Z->okX x r=false->(Ending.returned (.bool false)=Ending.returned (.bool (ja x))/\Bw w Z):=fun {Z} hb h=>no hb (by
    have:zch x=false:=by
     rw [hrels,KM];exact⟨r,hrm,by rw [h];decide⟩
    rw [hright,this];rfl)
   refine⟨k,rfl,hk6,?_⟩;refine⟨.pointer (some ⟨L,0+(1+49*k),none⟩),by
    have:=zc (za fg) (i:=k*1) (v := .pointer (some ⟨L,0+(1+49*k),none⟩)) (by
     rw [Gd];exact zq5 L hk6)
    exact this,?_⟩
   refine DrawE.ord [] [0,1,2,3,4,5,6,7,8,9,10,11,12,13,14] (by kernel_rfl) ⟨i64 r.n,zc (zw dU hcel) (i:=0) rfl,_,zc (za (hdr fU)) (i:=0) rfl,biE (fun h4=>?_) fun h4=>?_⟩
   ·have h4:(!decide (r.n=(x.ev.length:Int)))=true:=h4;have h4:¬ r.n=(x.ev.length:Int):=(by simpa using h4);exact brT (bad ((zst hbU dU)) (by unfold okX;rw [Uj h4];rfl))
   have h4:(!decide (r.n=(x.ev.length:Int)))=false:=h4;have h4:r.n=(x.ev.length:Int):=by simpa using h4
   refine⟨ze r,zf _,zw dU hcel,hlt (hdr fU),cmo (je hrw) ?_⟩;rintro e V ⟨rfl,hbV⟩;refine⟨hbV,?_⟩;have hbV2:=hbU.trans ((dU.trans hbV).mono hbU.size);refine biE (fun h5=>?_) fun h5=>?_
   ·have h5:okR r=false:=by
     have h5:(!okR r)=true:=h5;simpa using h5
    exact bad hbV2 (by unfold okX;rw [h5,Uk])
   have h5:okR r=true:=by
    have h5:(!okR r)=false:=h5;simpa using h5
   refine nxI (by omega) ⟨k+1,(cvE rfl rfl),⟨hk6,?_,zb (dU.trans hbV) fg,zb (dU.trans hbV) fU,hbV2⟩,zdc (by omega)⟩;rw [htk,QL,hall];show (true&&(okX x r&&true))=true;unfold okX;rw [Ut h4,h5];rfl
  ·have hc:¬ (k:Int)<6:=dF hc;obtain rfl:k=6:=by omega
   exact⟨(),(cvE rfl rfl),hall,fU,hbU⟩
 rintro _ U ⟨hrr,fU,hbU⟩;rw [hrr,Uz] at hright;have hall:∀ r∈zcQ x,r.n=x.ev.length/\okR r=true:=fun r hr=>by
  rw [hrels,Qk] at hrr;have:=hrr r hr;unfold okX at this;rw [bAT,dE] at this;exact this
 have hrf:=hall x.rf (by simp);have hrm:=hall x.rm (by simp);have hvU:=hv.below hbU;have dU:Bw U U.drew:=(Gh _ _).drew;have hvD:=hvU.below dU;have hbD:=zst hbU dU;refine DrawE.ord [] [0,1,2,3,4,5,6,7,8,9,10,11,12,13,14,15,16] (by kernel_rfl) ⟨ze x.po,zf _,zff (hdr fU) (i:=0) (by decide),hlt (hdr fU),_,zc (za (hdr fU)) (i:=0) rfl,cmo (zc5 hvD.ev (by omega)) ?_⟩;rintro e V ⟨rfl,hbV⟩;refine⟨hbV,?_⟩;have hbV2:=zst hbD hbV;have fV:=zb hbV (hdr fU);have hvV:=hvD.below hbV;refine⟨_,fun w=>zmZ _ _ x.po (poR x.ev) w,biE (fun h4=>?_) fun h4=>?_⟩
 ·have h4:zci x.po (poR x.ev)=true:=h4;rw [h4,Uz] at hright;refine cmo (znD fV hvV hrf.1 hrf.2 (hT.below hbV2)) ?_;rintro e T ⟨rfl,hbT⟩;refine⟨hbT,?_⟩;have hbT2:=zst hbV2 hbT;refine biE (fun h5=>?_) fun h5=>?_
  ·have h5:zbQ x=true:=h5;rw [h5,Uz] at hright;refine cmo (zod (locs:=n) (zb hbT fV) (hvV.below hbT) (by omega) (zoo h3 hnl (by omega)) (hT.below hbT2)) ?_;rintro e R ⟨rfl,hbR⟩;refine⟨hbR,?_⟩;have hbR2:=zst hbT2 hbR;refine biE (fun h6=>?_) fun h6=>?_
   ·have h6:zb0 x n=true:=h6;rw [h6,Uz] at hright;refine cmo (zlY (zb hbR (zb hbT fV)) ((hvV.below hbT).below hbR) hrm.1 hrm.2 (hT.below hbR2)) ?_;rintro e Q ⟨rfl,hbQ⟩;exact⟨hbQ,rb hright.symm,(zst hbR2 hbQ)⟩
   ·have h6:zb0 x n=false:=h6;rw [h6,Ul] at hright;exact⟨rb hright.symm,hbR2⟩
  ·have h5:zbQ x=false:=h5;rw [h5,Ul] at hright;exact brF ⟨rb hright.symm,hbT2⟩
 ·have h4:zci x.po (poR x.ev)=false:=h4;rw [h4,Ul] at hright;exact brF (brF ⟨rb hright.symm,hbV2⟩)
end
theorem zqc {a b:RelD} {f:Nat->Nat} (h:a.n=b.n->okR a=true->okR b=true->∀ i,i<48->f i<2^64):zI (comb a b f).1.to:=by
 unfold comb
 split
 ·rename_i hc;rw [bAT,bAT,dE] at hc;exact zdF fun i _ hi=>h hc.1 hc.2.1 hc.2.2 i hi
 ·exact fun i _=>(by show 0<2^64;decide)
theorem zoK {a b:RelD} (ha:zI a.to) (hb:zI b.to):zI (zfE a b).1.to:=zqc fun _ h _ i hi=>by
 unfold zdh;exact zkA hb _ _ (by decide) fun j hj=>(zi2 h ha hi j hj).2
theorem zds (k:Nat) (p:Nat->Bool):zfX (k+1) p=if p k=true then zfX k p|||2^k else zfX k p:=by
 unfold zfX;rw [QY,KT];rfl
theorem zet (p:Nat->Bool):∀ k,k<=64->zfX k p<2^64
 | 0,_=>by show 0<_;decide
 | k+1,h=>by
  rw [zds]
  split
  ·exact KY (zet p k (by omega)) (zZ (by omega))
  ·exact zet p k (by omega)
theorem zeB {n:Nat} {p:Nat->Nat->Bool} (hn:n<=64):zI (zbm n p).to:=zdF fun i _ _=>zet _ n hn
def jo (n:Nat) (p:Nat->Nat->Bool) (a k:Nat):Nat->Nat:=fun i=>if i<a then zfX n (p i) else if i=a then zfX k (p a) else 0
theorem zjT (n:Nat) (p:Nat->Nat->Bool) (a k:Nat):jo n p a k a=zfX k (p a):=by
 unfold jo;rw [Gw (by omega),Gx rfl]
theorem znB {n:Nat} {p:Nat->Nat->Bool} {a k:Nat} (h:p a k=true):upd (jo n p a k) a (jo n p a k a|||2^k)=jo n p a (k+1):=by
 funext i;by_cases hi:i=a
 ·subst hi;rw [qZ,zjT,zjT,zds,Gx h]
 ·rw [zaA _ _ hi];unfold jo;rw [Gw hi,Gw hi]
theorem zln {n:Nat} {p:Nat->Nat->Bool} {a k:Nat} (h:p a k=false):jo n p a k=jo n p a (k+1):=by
 have e:zfX (k+1) (p a)=zfX k (p a):=by rw [zds,Gw (by rw [h];decide)]
 funext i;unfold jo;rw [e]
theorem zlo (n:Nat) (p:Nat->Nat->Bool) (a:Nat):jo n p a n=jo n p (a+1) 0:=by
 funext i;unfold jo;by_cases h1:i<a
 ·rw [Gx h1,Gx (by omega)]
 ·by_cases h2:i=a
  ·subst h2;rw [Gw h1,Gx rfl,Gx (by omega)]
  ·rw [Gw h1,Gw h2,Gw (by omega)]
   split
   ·rfl
   ·rfl
theorem zlm (n:Nat) (p:Nat->Nat->Bool):jo n p 0 0=fun _=>0:=by
 funext i;unfold jo;rw [Gw (by omega)]
 split <;> rfl
theorem znC (n:Nat) (p:Nat->Nat->Bool):jo n p n 0=(zbm n p).to:=by
 funext i;unfold jo zbm jG;show _=if i<n then _ else 0
 by_cases h:i<n
 ·rw [Gx h,Gx h]
 ·rw [Gw h,Gw h]
  split <;> rfl
theorem znA {n:Nat} {p:Nat->Nat->Bool} {a k:Nat} (hn:n<=64) (hk:k<=64):zI (jo n p a k):=fun i _=>by
 unfold jo
 split
 ·exact zet _ n hn
 ·split
  ·exact zet _ k hk
  ·decide
theorem zr7 {s b:Nat}:decide ((((s/2^b&&&1:Nat):Nat):Int)=1)=s.testBit b:=by
 rw [zjq]
 cases s.testBit b <;> rfl
section
variable {w:Wd}
theorem ziw {b o a d:Nat} {r:RelD} (hc:∀ i,i<48->w.cell? ⟨b,o+1+i*1,none⟩=some (s64 (r.to i))) (hr:zI r.to) (ha:a<48) (hd:d<48) :
  Calls PG 117 #[.pointer (some ⟨b,o,none⟩),i64 (a:Nat),i64 (d:Nat)] w fun e w'=>e = .returned (.bool (zcm r a d))/\w=w':=by
 refine zD 17 [.pointer (some ⟨b,o,none⟩),i64 (a:Nat),i64 (d:Nat)] Tryz.func117 ?_;exact⟨a,rfl,ha,_,hc a ha,by omega,_,zf3 (a:=r.to a) (k:=d) (by omega),_,jV (a:=r.to a/2^d) (b:=1) (KE (Nat.div_le_self _ _) (hr a ha)) (by decide),rb zr7,rfl⟩
theorem zkY {e:Ev}:Calls PG 166 #[.agg (evE.enc e).toArray] w fun r w'=>r = .returned (.bool (decide (e.k=1)||decide (e.k=2)))/\Bw w w':=by
 refine zD 11 [.agg (evE.enc e).toArray] Tryz.func166 ?_;have f:=zA w (.cells (evE.enc e).toArray 158);have hb:Bw w (w.alloc (.cells (evE.enc e).toArray 158)):=zba w _;refine⟨u8 e.k,zc (za f) (i:=1) rfl,biE (fun h=>?_) fun h=>?_⟩
 ·have h:e.k=1:=qV.1 (dT h);exact⟨rb (by rw [Ut h];rfl),hb⟩
 ·have h:¬ e.k=1:=fun e2=>(dF h) (by rw [e2];rfl);refine⟨u8 e.k,zc (za f) (i:=1) rfl,rb ?_,hb⟩;rw [Uj h,Uw];exact QH.2 (qV (x:=e.k) (y:=2))
theorem zlv {n g:Nat} {caps:Array Value} {p:Nat->Nat->Bool} (hn:n<=48) (hok:jK (sg 0) g=true)
  (hp:∀ a d X,a<n->d<n->Bw w X->Calls PG g (i64 (a:Nat)::i64 (d:Nat)::caps.toList).toArray X fun e Y=>e = .returned (.bool (p a d))/\Bw X Y) :
  CB 115 #[i64 n,.func (.func g) #[] caps] w (.agg (ze (zbm n p)).toArray):=by
 refine z6 34 [i64 n,.func (.func g) #[] caps] (.c .p (.c .p (.c .p .p))) Tryz.func115 ?_;obtain⟨L,hL⟩:=nm (w.heap.size);refine⟨Unit,fun _=>⟨[(0,i64 n),(1,.func (.func g) #[] caps),(4,At0 L)],[]⟩,fun _ X=>qj X L zB/\X.heap.size=L+1/\Bw w X,?_,?_⟩
 ·exact⟨(),⟨.cons rfl (.cons rfl (.cons (by rw [hL];rfl) .nil)),rfl⟩,by rw [hL];exact zA w _,by rw [hL];exact wz _ _,(zba w _)⟩
 rintro _ X ⟨f0,sX,hbX⟩;refine⟨Unit,fun _=>⟨[(0,i64 n),(1,.func (.func g) #[] caps),(4,At0 L),(5,At0 (L+1))],[]⟩,fun _ Y=>qj Y (L+1) ⟨n,jo n p 0 0⟩/\Y.heap.size=L+2/\Bw X Y,?_,?_⟩
 ·refine⟨ze ⟨n,fun _=>0⟩,by kernel_rfl,?_⟩;refine zk (X:=X) (v := .agg (ze ⟨n,fun _=>0⟩).toArray) k30 (zf _) (by kernel_rfl) (zK _) fun Z hbZ fZ sZ=>?_;rw [sX] at fZ sZ;exact⟨(),⟨.cons rfl (.cons rfl (.cons rfl (.cons (by rw [<- sX];rfl) .nil))),rfl⟩,by rw [zlm];exact fZ,sZ,hbZ⟩
 rintro _ Y ⟨f1,sY,hbY⟩;have hbwY:=zst hbX hbY;have f0:=zb hbY f0;refine⟨Unit,fun _=>⟨[(4,At0 L),(5,At0 (L+1))],[]⟩,fun _ Z=>qj Z (L+1) (zbm n p)/\qj Z L zB/\Bw w Z,?_,?_⟩
 ·refine⟨Nat,fun a=>⟨[(0,i64 n),(1,.func (.func g) #[] caps),(4,At0 L),(5,At0 (L+1)),(10,i64 n),(11,i64 (a:Nat))],[]⟩,fun a Z=>a<=n/\qj Z (L+1) ⟨n,jo n p a 0⟩/\qj Z L zB/\Bw w Z,fun a=>n-a,0,
   (cvE rfl rfl),⟨Ge _,f1,f0,hbwY⟩,?_⟩
  rintro a Z ⟨ha,f1,f0,hbZ⟩;dsimp only at f1 ⊢;refine biE (fun hc=>?_) fun hc=>?_
  ·have hc:(a:Int)<(n:Int):=dT hc;have han:a<n:=by omega
   refine⟨Nat,fun d=>⟨[(0,i64 n),(1,.func (.func g) #[] caps),(4,At0 L),(5,At0 (L+1)),(6,i64 (a:Nat)),(10,i64 n),(11,i64 (a:Nat)),(14,i64 n),(15,i64 (d:Nat))],[]⟩,fun d V=>d<=n/\qj V (L+1) ⟨n,jo n p a d⟩/\qj V L zB/\Bw w V,fun d=>n-d,0,
    (cvE rfl rfl),⟨Ge _,f1,f0,hbZ⟩,?_⟩
   clear f1 f0 hbZ;rintro d V ⟨hd,f1,f0,hbV⟩;dsimp only at f1 ⊢;refine biE (fun hc=>?_) fun hc=>?_
   ·have hc:(d:Int)<(n:Int):=dT hc;have hdn:d<n:=(by omega);refine zkS hok (hp a d V han hdn hbV) ?_;rintro e U ⟨rfl,hbU⟩;refine⟨_,rfl,?_⟩;have f1:=zb hbU f1;have f0:=zb hbU f0;have hbU2:=zst hbV hbU;have sU:=hbU2.size;refine biE (fun h=>?_) fun h=>?_
    ·have h:p a d=true:=h;have hR:RelAt U (L+1) 0 30 [] [] ⟨n,jo n p a d⟩:=⟨rfl,by simpa using f1⟩;have dU:Bw U U.drew:=(Gh _ _).drew;have ha48:a<48:=(by omega);refine DrawE.ord [9] [0,1,2,3,4,5,6,7,8,9] (by kernel_rfl) ⟨a,rfl,ha48,s64 (jo n p a d a),(hR.same (Y:=U.drew) rfl).cell ha48,by omega,_,jU (e:=d) (by omega),_,zao (znA (by omega) (by omega) a ha48) (zZ (by omega)),a,rfl,ha48,zu k27 (hR.same (Y:=U.drew) rfl).cells (o:=0+1+a*1) (v:=s64 (jo n p a d a|||2^d)) rfl rfl (by rw [hR.len];omega) rfl fun S fS gS sS=>?_⟩;rw [hR.set ha48] at fS;have e5:upd (jo n p a d) a (jo n p a d a|||2^d)=jo n p a (d+1):=znB h;dsimp only at fS;rw [e5] at fS;have gS2:U.grownBy S (some (L+1)):=zg (zh dU) gS;exact nxI (by omega) ⟨d+1,(cvE rfl rfl),⟨hdn,by simpa using fS,(gS2.block L (hlt f0) (by simp)).trans f0,hbU2.trans (zm gS2 sU (by omega))⟩,zdc (by omega)⟩
    ·have h:p a d=false:=h;exact nxI (by omega) ⟨d+1,(cvE rfl rfl),⟨hdn,by rw [<- zln h];exact f1,f0,hbU2⟩,zdc (by omega)⟩
   ·have hc:¬ (d:Int)<(n:Int):=dF hc;obtain rfl:d=n:=(by omega);exact nxI (by omega) ⟨a+1,(cvE rfl rfl),⟨han,by rw [<- zlo];exact f1,f0,hbV⟩,zdc (by omega)⟩
  ·have hc:¬ (a:Int)<(n:Int):=dF hc;obtain rfl:a=n:=by omega
   rw [znC] at f1;exact⟨(),(cvE rfl rfl),f1,f0,hbZ⟩
 rintro _ Z ⟨f1,f0,hbZ⟩;exact⟨ze (zbm n p),zf _,za f1,hlt f1,zy (v := .agg (ze (zbm n p)).toArray) k30 f0 (zf _) (zf _) (zK _) ⟨ze (zbm n p),zf _,za (zq f0),rfl,zl hbZ (by omega) _⟩⟩
end
section
variable {w:Wd} {b c:Nat} {x:ExD} {q:OA}
theorem zaL {X:Wd} (fx:zo X ⟨b,0,none⟩ (exC x q c)):X.cell? ⟨b,0+0,none⟩=some (.slice q x.ev.length c):=zc fx (i:=0) rfl
theorem zqv (x:ExD) (i:Nat):(decide ((evA x i).k=1)||decide ((evA x i).k=2))=zmg x i:=rfl
theorem zfu {X:Wd} (hv:SlR evE X q x.ev) {a:Nat} (ha:a<x.ev.length):∃ bq oq,q=some ⟨bq,oq,none⟩/\bq<X.heap.size/\zo X ⟨bq,oq+a*7,none⟩ (evE.enc (evA x a)):=zca hv ha
theorem zsW {a d:Nat} (fx:zo w ⟨b,0,none⟩ (exC x q c)) (hv:SlR evE w q x.ev) (ha:a<x.ev.length) (hd:d<x.ev.length) :
  CB 118 #[At0 b,i64 (a:Nat),i64 (d:Nat)] w (.bool (zgz x a d)):=by
 refine z6 44 [At0 b,i64 (a:Nat),i64 (d:Nat)] (.c .p .p) Tryz.func118 ?_;refine⟨Unit,fun _=>⟨[(0,At0 b),(1,i64 (a:Nat)),(2,i64 (d:Nat))],[]⟩,fun _ X=>w=X,⟨(),(cvE rfl rfl),rfl⟩,?_⟩;rintro _ _ rfl;obtain⟨bq,oq,hqe,hb,hat⟩:=zfu hv ha;obtain⟨bq2,oq2,hqe2,hb2,hat2⟩:=zfu hv hd;rw [hqe] at hqe2;simp only [KZ,Uv,Gp] at hqe2;rw [<- hqe2.1,<- hqe2.2] at hat2;subst hqe;have dw:Bw w w.drew:=(Gh _ _).drew;refine DrawE.ord [] [0,1,2,3,4,5,6,7,8,9,10,11,12,13,14,15,16,17,18,19,20,21,22,23,24,25,26,27,28,29,30,31,32,33,34,35,36,37] (by kernel_rfl) ⟨_,zaL (zw dw fx),a,rfl,ha,evE.enc (evA x a),rfl,zw dw hat,nL hb dw.size,cmo zkY ?_⟩;rintro e X ⟨rfl,hbX⟩;refine⟨hbX,?_⟩;have bX:=dw.trans hbX;rw [zqv];refine biE (fun h1=>?_) fun h1=>?_
 ·have h1:zmg x a=true:=h1;refine⟨_,zaL (zw bX fx),d,rfl,hd,evE.enc (evA x d),rfl,zw bX hat2,nL hb bX.size,cmo zkY ?_⟩;rintro e Y ⟨rfl,hbY⟩;refine⟨hbY,?_⟩;have bY:=zst bX hbY;rw [zqv];refine biE (fun h2=>?_) fun h2=>?_
  ·have h2:zmg x d=true:=h2;refine⟨_,zaL (zw bY fx),a,rfl,ha,u8 (evA x a).l,by have:=zc (zw bY hat) (i:=2) (v:=u8 (evA x a).l) rfl;exact this,_,zaL (zw bY fx),d,rfl,hd,u8 (evA x d).l,by have:=zc (zw bY hat2) (i:=2) (v:=u8 (evA x d).l) rfl;exact this,rb ?_,bY⟩;unfold zgz;rw [h1,h2,Uz,Uz];exact QH.2 qV
  ·have h2:zmg x d=false:=h2;refine⟨rb ?_,bY⟩;unfold zgz;rw [h1,h2];rfl
 ·have h1:zmg x a=false:=h1;refine brF ⟨rb ?_,bX⟩;unfold zgz;rw [h1];rfl
end
structure ScnV (X:Wd) (b:Nat) (x:ExD) (q:OA) (c:Nat) (f l s:RelD):Prop where
 h:X.heap[b]?=some (.cells (exC x q c++(ze f++(ze l++ze s))).toArray 263 (0,0))
 v:ExV X x q
 wf:zI f.to
 wl:zI l.to
 ws:zI s.to
section
variable {w:Wd} {b c:Nat} {x:ExD} {q:OA} {f l s:RelD}
theorem ScnV.below {X Y:Wd} (h:ScnV X b x q c f l s) (hb:Bw X Y):ScnV Y b x q c f l s:=⟨zb hb h.h,h.v.below hb,h.wf,h.wl,h.ws⟩
theorem ScnV.cells {X:Wd} (h:ScnV X b x q c f l s):zo X ⟨b,0,none⟩ (exC x q c):=by
 have:=zM (n:=0) (m:=333) (za h.h);have e:((exC x q c++(ze f++(ze l++ze s))).toArray.toList.drop 0).take 333=exC x q c:=by
  show (exC x q c++_).take 333=_;rw [Jg (by rw [zH];decide),JE (by rw [zH];decide)]
 rw [e] at this;exact this
theorem ScnV.at {X:Wd} {o:Nat} {r:RelD} (h:ScnV X b x q c f l s) (hr:∃ A T,A.length=o/\exC x q c++(ze f++(ze l++ze s))=A++(ze r++T)):∀ i,i<48->X.cell? ⟨b,o+1+i*1,none⟩=some (s64 (r.to i)):=by
 intro i hi;obtain⟨A,T,hA,hE⟩:=hr;have:(exC x q c++(ze f++(ze l++ze s)))[o+1+i*1]?=some (s64 (r.to i)):=by
  rw [hE,Gd,UH,q8 hA,Jp (by rw [zf];omega),zga r hi]
 have h2:=zc (za h.h) this;rw [UX] at h2;exact h2
end
abbrev orG (l:List Nat):Nat:=l.foldl (fun s i=>s|||2^i) 0
section
variable {b c:Nat} {x:ExD} {q:OA} {w:Wd}
theorem jZ {X:Wd} (fx:ExH X b x q c) {i:Nat} (hi:i<6) {o:Nat} (ho:o=1+49*i):zo X ⟨b,0+o,none⟩ (ze ((zcQ x).getD i x.po)):=by
 rw [ho];exact zff fx hi
theorem zpQ (hv:ExV w x q) (hT:Tz64M w):zI (qP x.rf).to/\zI (frM x).to:=by
 have h1:zI (qP x.rf).to:=by
  unfold qP
  split
  ·rename_i h;intro i hi;refine Qz fun hge=>?_;obtain⟨j,hj1,hj2⟩:=Ja hge;rw [show ((⟨x.rf.n,zan x.rf.to x.rf.n.toNat⟩:RelD).to i)=zan x.rf.to x.rf.n.toNat i from rfl,zfD,bAT,dE] at hj2;have h48:=(jp h).2.1;omega
  ·exact fun i _=>(by show 0<2^64;decide)
 exact⟨h1,zoK h1 hv.co⟩
theorem zvT (fx:ExH w b x q c) (hv:ExV w x q) (hT:Tz64M w):CB 114 #[At0 b] w (.agg (ze (frM x)).toArray):=by
 refine z6 19 [At0 b] (.c .p (.c .p .p)) Tryz.func114 ?_;obtain⟨L,hL⟩:=nm (w.heap.size);obtain⟨wb,wf⟩:=zpQ hv hT;refine⟨Unit,fun _=>⟨[(0,At0 b),(2,At0 L)],[]⟩,fun _ X=>qj X L zB/\Bw w X,⟨(),⟨.cons rfl (.cons (by rw [hL];rfl) .nil),rfl⟩,by rw [hL];exact zA w _,(zba w _)⟩,?_⟩;rintro _ X ⟨f0,hbX⟩;refine⟨Nat,fun F=>⟨[(2,At0 L),(3,At0 F)],[]⟩,fun F Z=>qj Z F (frM x)/\qj Z L zB/\Bw w Z,?_,?_⟩
 ·have dX:Bw X X.drew:=(Gh _ _).drew;have fX:=hdr (zb hbX fx);have hba:∀ (A:Wd) (o:Obj),Bw A (A.alloc o):=fun A o=>(zba _ _);have put:∀ (W:Wd) (b3:Nat),Bw X W->qj W b3 zB->X.heap.size<=b3->∀ {K:Wd->Prop},(∀ V,(qj V b3 (frM x)/\qj V L zB/\Bw w V)->K V) ->
    SatR ((storeVar 30 ⟨b3,0,none⟩ (.agg (ze (frM x)).toArray)).run PG W) fun _ w'=>K w':=by
   intro W b3 hW f3 g3 K k;refine zy (v := .agg (ze (frM x)).toArray) k30 f3 (zf _) (zf _) (zK _) ?_;have hL2:=hlt f0;exact k _ ⟨zq f3,(zt (by omega)).trans (zb hW f0),zl ((zst hbX hW)) (by have:=hbX.size;omega) _⟩
  refine DrawE.treeQ [14] (.op 0 (.op 1 (.op 2 (.op 3 (.op 5 (.op 6 (.op 7 (.op 8 (.alt (.op 13 (.op 4 (.op 9 (.op 10 (.op 11 (.op 12 (.op 14 (.op 15 (.nil))))))))) (.op 4 (.alt (.op 13 (.op 9 (.op 10 (.op 11 (.op 12 (.op 14 (.op 15 (.nil)))))))) (.op 9 (.op 10 (.op 11 (.op 12 (.op 13 (.op 14 (.op 15 (.nil))))))))))))))))))) (by kernel_rfl) ⟨ze x.rf,zf _,jZ fX (i:=1) (by decide) rfl,hlt fX,ze x.co,zf _,jZ fX (i:=2) (by decide) rfl,hlt fX,Gm ?_ ?_⟩
  ·refine⟨hba _ _,?_⟩;have b1:=dX.alloc (Gc _) (.cells (ze zB).toArray 30);refine cmo (zhF hv.rf (hT.below ((zst hbX b1)))) ?_;rintro e Y ⟨rfl,hbY,_⟩;refine⟨hbY,?_⟩;have b2:=zst b1 hbY;refine cmo (zmh wb hv.co (hT.below ((zst hbX b2)))) ?_;rintro e Z ⟨rfl,hbZ⟩;exact⟨hbZ,put Z X.heap.size ((zst b2 hbZ)) (zb hbZ (zb hbY (zA X.drew _))) (Gc _) (fun V hV=>⟨X.heap.size,(cvE rfl rfl),hV⟩)⟩
  refine cmo (zhF hv.rf (hT.below ((zst hbX dX)))) ?_;rintro e Y ⟨rfl,hbY,_⟩;refine⟨hbY,?_⟩;have b1:=zst dX hbY;refine Gm ?_ ?_
  ·refine⟨hba _ _,?_⟩;have b2:=b1.alloc b1.size (.cells (ze zB).toArray 30);refine cmo (zmh wb hv.co (hT.below ((zst hbX b2)))) ?_;rintro e Z ⟨rfl,hbZ⟩;exact⟨hbZ,put Z Y.heap.size ((zst b2 hbZ)) (zb hbZ (zA Y _)) b1.size (fun V hV=>⟨Y.heap.size,(cvE rfl rfl),hV⟩)⟩
  ·refine cmo (zmh wb hv.co (hT.below ((zst hbX b1)))) ?_;rintro e Z ⟨rfl,hbZ⟩;refine⟨hbZ,?_⟩;have b2:=zst b1 hbZ;exact⟨hba _ _,put _ Z.heap.size (b2.alloc b2.size _) (zA Z _) b2.size (fun V hV=>⟨Z.heap.size,(cvE rfl rfl),hV⟩)⟩
 rintro F Z ⟨f1,f0,hbZ⟩;exact⟨ze (frM x),zf _,za f1,hlt f1,zy (v := .agg (ze (frM x)).toArray) k30 f0 (zf _) (zf _) (zK _) ⟨ze (frM x),zf _,za (zq f0),rfl,zl hbZ (by omega) _⟩⟩
end
structure RelOk (n:Nat) (r:RelD):Prop where
 n:r.n=n
 ok:okR r=true
 w:zI r.to
section
variable {n:Nat} {r a b:RelD}
theorem RelOk.le (h:RelOk n r):n<=48:=by
 have:=(jp h.ok).2.1;have:=h.n;omega
theorem RelOk.bit (h:RelOk n r) {i j:Nat} (hi:i<48) (hb:zcm r i j=true):i<n/\j<n:=by
 have:=zi3 h.ok h.w hi hb;have:=h.n;omega
theorem zta (hn:r.n=n) (h48:n<=48) (h:∀ i j,i<48->zcm r i j=true->i<n/\j<n):okR r=true:=by
 unfold okR;rw [bAT,bAT,dE,dE,Qk];refine⟨by omega,by omega,fun i hi=>?_⟩;have hi:=Uq.1 hi;unfold zbA;rw [bAT,QI,dE,dE,dE];refine⟨?_,?_⟩
 ·rw [zkr,ze5];apply Ka;intro j;rw [QD];by_cases hj:j<64
  ·rw [zfr (jY _) hj,zhC (by omega) (by omega) hj]
   cases hb:(r.to i).testBit j with
   | false=>rfl
   | true =>
    have:=(h i j hi hb).2;rw [Ut (by omega)];rfl
  ·have:=JF (nL (KE (show jx (r.to i) (zat r.n)<=_ from Nat.and_le_right) (show 18446744073709551615-zat r.n<2^64 by omega)) (Kb (show 0<2 by decide) (show 64<=j by omega)));exact this
 ·by_cases hin:i<n
  ·exact .inl (by omega)
  ·refine .inr (Ka fun j=>?_);rw [QD]
   cases hb:(r.to i).testBit j with
   | false=>rfl
   | true=>exact Gy (h i j hi hb).1 hin
theorem RelOk.of (hn:r.n=n) (h48:n<=48) (h:∀ i j,i<48->zcm r i j=true->i<n/\j<n) (hw:zI r.to):RelOk n r:=⟨hn,zta hn h48 h,hw⟩
theorem ziR (p:Nat->Bool):∀ k j,(zfX k p).testBit j=(decide (j<k)&&p j)
 | 0,j=>by
  show (0:Nat).testBit j=_;simp
 | k+1,j=>by
  rw [zds]
  split
  ·rename_i h;rw [Nat.testBit_or,ziR p k j,zmC];by_cases e:j=k
   ·subst e;simp [h]
   ·rw [Uj e,Uy];congr 1;exact QH.2 (by omega)
  ·rename_i h;rw [ziR p k j];by_cases e:j=k
   ·subst e;have:p j=false:=(by simpa using h);rw [this,Uk,Uk]
   ·congr 1;exact QH.2 (by omega)
theorem ziD {f:Nat->Nat} {i j:Nat}:zcm (jG n f) i j=(decide (i<n)&&(f i).testBit j):=by
 unfold zcm jG;dsimp only
 split
 ·rename_i h;rw [Ut h];rfl
 ·rename_i h;rw [Uj h,QD];rfl
theorem zpe {p:Nat->Nat->Bool} {i j:Nat}:zcm (zbm n p) i j=(decide (i<n)&&(decide (j<n)&&p i j)):=by
 unfold zbm;rw [ziD,ziR]
theorem RelOk.pick (h:n<=48) (p:Nat->Nat->Bool):RelOk n (zbm n p):=by
 refine .of rfl h (fun i j _ hb=>?_) (zeB (by omega));rw [zpe] at hb;simp only [bAT,dE] at hb;exact⟨hb.1,hb.2.1⟩
theorem zr0 {f:Nat->Nat} (ha:RelOk n a) (hb:RelOk n b):comb a b f=(jG n f,0):=by
 unfold comb;have e:a.n.toNat=n:=by have:=ha.n;omega
 rw [Ut (ha.n.trans hb.n.symm),ha.ok,hb.ok,Gx (show (true&&(true&&true))=true from rfl),e]
theorem RelOk.comb {f:Nat->Nat} (ha:RelOk n a) (hb:RelOk n b) (hf:∀ i j,i<n->(f i).testBit j=true->j<n):RelOk n (comb a b f).1:=by
 rw [zr0 ha hb];have h48:=ha.le;have hbit:∀ i j,zcm (jG n f) i j=true->i<n/\j<n:=fun i j h=>by
  rw [ziD,bAT,dE] at h;exact⟨h.1,hf i j h.1 h.2⟩
 refine .of rfl h48 (fun i j _ h=>hbit i j h) fun i hi=>?_;apply Qz;intro hge;obtain⟨j,hj1,hj2⟩:=Ja hge;have:=(hbit i j hj2).2;omega
theorem ziv {tq:Nat->Nat} {j:Nat}:∀ (l:List Nat) (t:Nat),(l.foldl (fun t a=>t|||tq a) t).testBit j=(t.testBit j||l.any fun a=>(tq a).testBit j)
 | [],t=>by simp
 | a::l,t=>by rw [QO,ziv l,Nat.testBit_or,UD,Bool.or_assoc]
theorem RelOk.then (ha:RelOk n a) (hb:RelOk n b):RelOk n (zfE a b).1:=ha.comb hb fun i j hi h=>by
 have h48:=ha.le;unfold zdh at h;rw [ziv,QD,Uw,Ql] at h;obtain⟨k,hk,h⟩:=h;have:=(ha.bit (by omega) (zgi.1 hk).2).2;exact (hb.bit (by omega) h).2
end
structure WX (x:ExD):Prop where
 po:zI x.po.to
 rf:zI x.rf.to
 co:zI x.co.to
 dt:zI x.dt.to
 ct:zI x.ct.to
 rm:zI x.rm.to
structure XOk (x:ExD):Prop where
 n:x.ev.length<=48
 po:RelOk x.ev.length x.po
 rf:RelOk x.ev.length x.rf
 co:RelOk x.ev.length x.co
 dt:RelOk x.ev.length x.dt
 ct:RelOk x.ev.length x.ct
 rm:RelOk x.ev.length x.rm
 ev:jJ x.ev (zaq x.ev)=true
 poE:zci x.po (poR x.ev)=true
 rfR:zbQ x=true
 coR:zb0 x (zaq x.ev)=true
 dep:zbd x=true
theorem zh7 {X:Wd} {L:Nat} {r:RelD} (h:qj X L r):∀ i,i<48->X.cell? ⟨L,0+1+i*1,none⟩=some (s64 (r.to i)):=by
 have hR:RelAt X L 0 30 [] [] r:=⟨rfl,by simpa using h⟩;exact fun i hi=>hR.cell hi
section
variable {b c:Nat} {x:ExD} {q:OA} {w:Wd}
theorem ztt {r:RelD} {a d R B:Nat} (fR:qj w R r) (hr:zI r.to) (fB:w.heap[B]?=some (.cells #[At0 b] 86 (0,0))) (fx:ExH w b x q c) (hv:ExV w x q) (ha:a<x.ev.length) (hd:d<x.ev.length) :
  CB 167 #[i64 (a:Nat),i64 (d:Nat),At0 R,At0 B] w (.bool (zcm r a d && !decide ((evA x a).th=(evA x d).th))):=by
 refine zD 29 [i64 (a:Nat),i64 (d:Nat),At0 R,At0 B] Tryz.func167 ?_;have hn:=hv.n;obtain⟨bq,oq,hqe,hb,hat⟩:=zfu hv.ev ha;obtain⟨bq2,oq2,hqe2,hb2,hat2⟩:=zfu hv.ev hd;rw [hqe] at hqe2;simp only [KZ,Uv,Gp] at hqe2;rw [<- hqe2.1,<- hqe2.2] at hat2;subst hqe;have dw:Bw w w.drew:=(Gh _ _).drew;refine DrawE.ord [] [0,1,2,3,4,5,6,7,8,9,10,11,12,13,14,15,16,17,18,19,20,21,22] (by kernel_rfl) (cmo (ziw (zh7 (hdr fR)) hr (by omega) (by omega)) ?_);rintro e _ ⟨rfl,rfl⟩;refine⟨Gh _ _,biE (fun h1=>?_) fun h1=>?_⟩
 ·have h1:zcm r a d=true:=h1;exact⟨At0 b,zc (za (hdr fB)) (i:=0) rfl,_,zaL (za (hdr fx)),a,rfl,ha,i64 (evA x a).th,by have:=zc (zw dw hat) (i:=0) (v:=i64 (evA x a).th) rfl;exact this,At0 b,zc (za (hdr fB)) (i:=0) rfl,_,zaL (za (hdr fx)),d,rfl,hd,i64 (evA x d).th,by have:=zc (zw dw hat2) (i:=0) (v:=i64 (evA x d).th) rfl;exact this,rb (by rw [h1,Uz]),dw⟩
 ·have h1:zcm r a d=false:=h1;exact⟨rb (by rw [h1,Ul]),dw⟩
theorem zu5 {r:RelD} (fx:ExH w b x q c) (hv:ExV w x q) (hr:zI r.to) (hn:r.n=x.ev.length) :
  CB 120 #[At0 b,.agg (ze r).toArray] w (.agg (ze (zhO x r)).toArray):=by
 refine z6 9 [At0 b,.agg (ze r).toArray] (.c .p (.c .p .p)) Tryz.func120 ?_;obtain⟨L,hL⟩:=nm (w.heap.size);have h19:=hv.n;refine⟨Unit,fun _=>⟨[(2,At0 L),(3,At0 (L+1)),(4,At0 (L+2))],[]⟩,fun _ X=>X.heap[L]?=some (.cells #[At0 b] 86 (0,0))/\qj X (L+1) r/\qj X (L+2) zB/\Bw w X,?_,?_⟩
 ·have s1:=wz w (.cells #[At0 b] 86);have s2:=wz (w.alloc (.cells #[At0 b] 86)) (.cells (ze r).toArray 30);have b1:Bw w (w.alloc (.cells #[At0 b] 86)):=zba w _;have b2:=b1.alloc b1.size (.cells (ze r).toArray 30);have h1:=zA w (.cells #[At0 b] 86);have h2:=zA (w.alloc (.cells #[At0 b] 86)) (.cells (ze r).toArray 30);have h3:=zA ((w.alloc (.cells #[At0 b] 86)).alloc (.cells (ze r).toArray 30)) (.cells (ze zB).toArray 30);rw [s1] at h2 s2;rw [s2] at h3;refine⟨(),⟨.cons (by rw [hL];rfl) (.cons (by rw [hL,<- s1];rfl) (.cons (by rw [hL,<- s2];rfl) .nil)),rfl⟩,by rw [hL];exact qy _ (qy _ h1),by rw [hL];exact qy _ h2,by rw [hL];exact h3,b2.alloc b2.size _⟩
 rintro _ X ⟨fB,fR,f0,hbX⟩;have fX:=zb hbX fx;have hvX:=hv.below hbX;refine⟨Unit,fun _=>⟨[(4,At0 (L+2))],[]⟩,fun _ Y=>qj Y (L+2) (zhO x r)/\Bw w Y,?_,?_⟩
 ·refine⟨i64 r.n,by have:=zc (za fR) (i:=0) (v:=i64 r.n) rfl;exact this,?_⟩;have en:zhO x r=zbm x.ev.length fun a d=>zcm r a d && !decide ((evA x a).th=(evA x d).th):=by
   unfold zhO;rw [hn];rfl
  rw [hn];refine cmo (zlv (n:=x.ev.length) (caps := #[At0 (L+1),At0 L]) (g:=167) (p:=fun a d=>zcm r a d && !decide ((evA x a).th=(evA x d).th)) (by omega) (by kernel_rfl) fun a d Z ha hd hb=>ztt (zb hb fR) hr (zb hb fB) (zb hb fX) (hvX.below hb) ha hd) ?_;rintro e Y ⟨rfl,hbY⟩;rw [<- en];have f0:=zb hbY f0;exact zy (v := .agg (ze (zhO x r)).toArray) k30 f0 (zf _) (zf _) (zK _) ⟨(),(cvE rfl rfl),zq f0,zl ((zst hbX hbY)) (by omega) _⟩
 rintro _ Y ⟨f0,hbY⟩;exact⟨ze (zhO x r),zf _,za f0,rfl,hbY⟩
end
section
variable {b c:Nat} {x:ExD} {q:OA} {w:Wd}
theorem ztn {r:RelD} {a d R:Nat} (fR:qj w R r) (hr:zI r.to) (fx:ExH w b x q c) (hv:ExV w x q) (ha:a<x.ev.length) (hd:d<x.ev.length) :
  CB 148 #[i64 (a:Nat),i64 (d:Nat),At0 R,At0 b] w (.bool (zcm r a d&&decide ((evA x a).th=(evA x d).th))):=by
 refine zD 25 [i64 (a:Nat),i64 (d:Nat),At0 R,At0 b] Tryz.func148 ?_;have hn:=hv.n;obtain⟨bq,oq,hqe,hb,hat⟩:=zfu hv.ev ha;obtain⟨bq2,oq2,hqe2,hb2,hat2⟩:=zfu hv.ev hd;rw [hqe] at hqe2;simp only [KZ,Uv,Gp] at hqe2;rw [<- hqe2.1,<- hqe2.2] at hat2;subst hqe;have dw:Bw w w.drew:=(Gh _ _).drew;refine DrawE.ord [] [0,1,2,3,4,5,6,7,8,9,10,11,12,13,14,15,16,17,18] (by kernel_rfl) (cmo (ziw (zh7 (hdr fR)) hr (by omega) (by omega)) ?_);rintro e _ ⟨rfl,rfl⟩;refine⟨Gh _ _,biE (fun h1=>?_) fun h1=>?_⟩
 ·have h1:zcm r a d=true:=h1;exact⟨_,zaL (za (hdr fx)),a,rfl,ha,i64 (evA x a).th,by have:=zc (zw dw hat) (i:=0) (v:=i64 (evA x a).th) rfl;exact this,_,zaL (za (hdr fx)),d,rfl,hd,i64 (evA x d).th,by have:=zc (zw dw hat2) (i:=0) (v:=i64 (evA x d).th) rfl;exact this,rb (by rw [h1,Uz]),dw⟩
 ·have h1:zcm r a d=false:=h1;exact⟨rb (by rw [h1,Ul]),dw⟩
theorem ztj {a d:Nat} (fx:ExH w b x q c) (hv:ExV w x q) (ha:a<x.ev.length) (hd:d<x.ev.length) :
  CB 146 #[i64 (a:Nat),i64 (d:Nat),At0 b] w (.bool (zgz x a d)):=by
 refine zD 9 [i64 (a:Nat),i64 (d:Nat),At0 b] Tryz.func146 ?_;refine cmo (zsW (za fx) hv.ev ha hd) ?_;rintro e X ⟨rfl,hb⟩;exact⟨rfl,hb⟩
end
section
variable {b c:Nat} {x:ExD} {q:OA} {w:Wd}
def zcn (x:ExD) (r:RelD):Bool:=okR r&&(decide (r.n=x.ev.length)&&ja x)
theorem zi6 {p:Bool} (h:(!p)=true):p=false:=by simpa using h
theorem zi5 {p:Bool} (h:(!p)=false):p=true:=by simpa using h
theorem zbS {X:Wd} {L:Nat} {r r0:RelD} (f0:qj X L r0) (hL:w.heap.size<=L) (hbX:Bw w X) {K:Wd->Prop} (k:∀ Y,qj Y L r->Bw w Y->K Y) :
  SatR ((storeVar 30 ⟨L,0,none⟩ (.agg (ze r).toArray)).run PG X) fun _ w'=>K w' :=
 zy (v := .agg (ze r).toArray) k30 f0 (zf _) (zf _) (zK _) (k _ (zq f0) (zl hbX hL _))
def frX (x:ExD):RelD:=if ja x=true then frM x else zB
def zlI (x:ExD):RelD:=if ja x=true then zrk x else zB
def zlR (x:ExD) (r:RelD):RelD:=if zcn x r=true then zhO x r else zB
def zlJ (x:ExD) (r:RelD):RelD:=if zcn x r=true then zn2 x r else zB
theorem zd7 {r:RelD} (h:zcn x r=true):okR r=true/\r.n=x.ev.length/\ja x=true:=by
 unfold zcn at h;rw [bAT,bAT,dE] at h;exact h
theorem zce (w:Wd) (x:ExD) (q:OA) (c:Nat) (r:RelD) (T:TypeId) : 
  ExH ((w.alloc (.cells (exC x q c).toArray 37)).alloc (.cells (ze r).toArray T)) w.heap.size x q c/\((w.alloc (.cells (exC x q c).toArray 37)).alloc (.cells (ze r).toArray T)).heap[w.heap.size+1]?=some (.cells (ze r).toArray T (0,0)) /\
   ((w.alloc (.cells (exC x q c).toArray 37)).alloc (.cells (ze r).toArray T)).heap.size=w.heap.size+2/\Bw w ((w.alloc (.cells (exC x q c).toArray 37)).alloc (.cells (ze r).toArray T)):=by
 have s1:=wz w (.cells (exC x q c).toArray 37);have h2:=zA (w.alloc (.cells (exC x q c).toArray 37)) (.cells (ze r).toArray T);have s2:=wz (w.alloc (.cells (exC x q c).toArray 37)) (.cells (ze r).toArray T);rw [s1] at h2 s2;have b1:Bw w (w.alloc (.cells (exC x q c).toArray 37)):=zba w _;exact⟨qy _ (zA w _),h2,s2,b1.alloc b1.size _⟩
theorem zpR {r:RelD} (hv:ExV w x q) (hr:zI r.to) (hT:Tz64M w):CB 147 #[.agg (exC x q c).toArray,.agg (ze r).toArray] w (.bool (zcn x r)):=by
 refine z6 19 [.agg (exC x q c).toArray,.agg (ze r).toArray] (.c .p .p) Tryz.func147 ?_;obtain⟨L,hL⟩:=nm (w.heap.size);refine⟨Unit,fun _=>⟨[(2,At0 L),(3,At0 (L+1))],[]⟩,fun _ X=>ExH X L x q c/\qj X (L+1) r/\Bw w X,?_,?_⟩
 ·obtain⟨h1,h2,h3,h4⟩:=zce w x q c r 30;have s1:=wz w (.cells (exC x q c).toArray 37);exact⟨(),⟨.cons (by rw [hL];rfl) (.cons (by rw [hL,<- s1];rfl) .nil),rfl⟩,by rw [hL];exact h1,by rw [hL];exact h2,h4⟩
 rintro _ X ⟨fX,fR,hbX⟩;refine⟨ze r,zf _,za fR,hlt fR,cmo (je hr) ?_⟩;rintro e Y ⟨rfl,hbY⟩;have bY:=zst hbX hbY;refine biE (fun h1=>?_) fun h1=>?_
 ·have h1:okR r=true:=h1;refine⟨i64 r.n,by have:=zc (za (zb hbY fR)) (i:=0) (v:=i64 r.n) rfl;exact this,_,zaL (za (zb hbY fX)),biE (fun h2=>?_) fun h2=>?_⟩
  ·have h2:r.n=(x.ev.length:Int):=dT h2;refine⟨exC x q c,zH _ _ _,za (zb hbY fX),hlt (zb hbY fX),cmo (ze7 (hv.below bY) (hT.below bY)) ?_⟩;rintro e Z ⟨rfl,hbZ⟩;exact⟨rb (by unfold zcn;rw [h1,Ut h2];rfl),(zst bY hbZ)⟩
  ·have h2:¬ r.n=(x.ev.length:Int):=dF h2;exact⟨rb (by unfold zcn;rw [h1,Uj h2];rfl),bY⟩
 ·have h1:okR r=false:=h1;exact brF ⟨rb (by unfold zcn;rw [h1];rfl),bY⟩
theorem zvn (hv:ExV w x q) (hT:Tz64M w):CB 98 #[.agg (exC x q c).toArray] w (.agg (ze (frX x)).toArray):=by
 refine z6 8 [.agg (exC x q c).toArray] (.c .p .p) Tryz.func98 ?_;obtain⟨L,hL⟩:=nm (w.heap.size);have hn:=hv.n;refine⟨Unit,fun _=>⟨[(1,At0 L),(2,At0 (L+1))],[]⟩,fun _ X=>ExH X L x q c/\qj X (L+1) zB/\Bw w X,?_,?_⟩
 ·obtain⟨h1,h2,h3,h4⟩:=zce w x q c zB 30;have s1:=wz w (.cells (exC x q c).toArray 37);exact⟨(),⟨.cons (by rw [hL];rfl) (.cons (by rw [hL,<- s1];rfl) .nil),rfl⟩,by rw [hL];exact h1,by rw [hL];exact h2,h4⟩
 rintro _ X ⟨fX,f0,hbX⟩;have zero:frX x=zB->∀ {Y:Wd},Bw X Y->SatR ((storeVar 30 ⟨L+1,0,none⟩ (.agg (ze zB).toArray)).run PG Y) fun _ w'=>∃ cells,cells.length=49/\zo w' ⟨L+1,0,none⟩ cells/\Ending.returned (.agg cells.toArray) = .returned (.agg (ze (frX x)).toArray)/\Bw w w':=fun h0 {Y} hb=>by
  rw [h0];exact zbS (zb hb f0) (by omega) ((zst hbX hb)) fun Z fZ bZ=>⟨ze zB,zf _,za fZ,rfl,bZ⟩
 refine⟨exC x q c,zH _ _ _,za fX,hlt fX,cmo (ze7 (hv.below hbX) (hT.below hbX)) ?_⟩;rintro e Y ⟨rfl,hbY⟩;have bY:=zst hbX hbY;have fY:=zb hbY fX;refine biE (fun h2=>?_) fun h2=>?_
 ·have h2:ja x=false:=zi6 h2;refine⟨ze zB,by kernel_rfl,?_⟩;exact zero (Gw fun h=>by rw [h2] at h;cases h) hbY
 ·have h2:ja x=true:=zi5 h2;have e0:frX x=frM x:=Gx h2;rw [e0];refine cmo (zvT fY (hv.below bY) (hT.below bY)) ?_;rintro e Z ⟨rfl,hbZ⟩;exact zbS (zb hbZ (zb hbY f0)) (by omega) ((zst bY hbZ)) fun V fV bV=>⟨ze (frM x),zf _,za fV,rfl,bV⟩
theorem zt3 (hv:ExV w x q) (hT:Tz64M w):CB 99 #[.agg (exC x q c).toArray] w (.agg (ze (zlI x)).toArray):=by
 refine z6 12 [.agg (exC x q c).toArray] (.c .p .p) Tryz.func99 ?_;obtain⟨L,hL⟩:=nm (w.heap.size);have hn:=hv.n;refine⟨Unit,fun _=>⟨[(1,At0 L),(2,At0 (L+1))],[]⟩,fun _ X=>ExH X L x q c/\qj X (L+1) zB/\Bw w X,?_,?_⟩
 ·obtain⟨h1,h2,h3,h4⟩:=zce w x q c zB 30;have s1:=wz w (.cells (exC x q c).toArray 37);exact⟨(),⟨.cons (by rw [hL];rfl) (.cons (by rw [hL,<- s1];rfl) .nil),rfl⟩,by rw [hL];exact h1,by rw [hL];exact h2,h4⟩
 rintro _ X ⟨fX,f0,hbX⟩;have zero:zlI x=zB->∀ {Y:Wd},Bw X Y->SatR ((storeVar 30 ⟨L+1,0,none⟩ (.agg (ze zB).toArray)).run PG Y) fun _ w'=>∃ cells,cells.length=49/\zo w' ⟨L+1,0,none⟩ cells/\Ending.returned (.agg cells.toArray) = .returned (.agg (ze (zlI x)).toArray)/\Bw w w':=fun h0 {Y} hb=>by
  rw [h0];exact zbS (zb hb f0) (by omega) ((zst hbX hb)) fun Z fZ bZ=>⟨ze zB,zf _,za fZ,rfl,bZ⟩
 refine⟨exC x q c,zH _ _ _,za fX,hlt fX,cmo (ze7 (hv.below hbX) (hT.below hbX)) ?_⟩;rintro e Y ⟨rfl,hbY⟩;have bY:=zst hbX hbY;have fY:=zb hbY fX;refine biE (fun h2=>?_) fun h2=>?_
 ·have h2:ja x=false:=zi6 h2;refine⟨ze zB,by kernel_rfl,?_⟩;exact zero (Gw fun h=>by rw [h2] at h;cases h) hbY
 ·have h2:ja x=true:=zi5 h2;have e0:zlI x=zrk x:=Gx h2;rw [e0];refine⟨_,zaL (za fY),cmo (zlv (n:=x.ev.length) (caps := #[At0 L]) (g:=146) (p:=zgz x) (by omega) (by kernel_rfl) fun a d Z ha hd hb=>ztj (zb hb fY) ((hv.below bY).below hb) ha hd) ?_⟩;rintro e Z ⟨rfl,hbZ⟩;exact zbS (zb hbZ (zb hbY f0)) (by omega) ((zst bY hbZ)) fun V fV bV=>⟨ze (zrk x),zf _,za fV,rfl,bV⟩
theorem zt8 {r:RelD} (hv:ExV w x q) (hr:zI r.to) (hT:Tz64M w):CB 100 #[.agg (exC x q c).toArray,.agg (ze r).toArray] w (.agg (ze (zlR x r)).toArray):=by
 refine z6 12 [.agg (exC x q c).toArray,.agg (ze r).toArray] (.c .p .p) Tryz.func100 ?_;obtain⟨L,hL⟩:=nm (w.heap.size);have hn:=hv.n;refine⟨Unit,fun _=>⟨[(2,At0 L),(3,At0 (L+1)),(4,At0 (L+2))],[]⟩,fun _ X=>ExH X L x q c/\qj X (L+1) r/\qj X (L+2) zB/\Bw w X,?_,?_⟩
 ·obtain⟨h1,h2,h3,h4⟩:=zce w x q c r 30;have s1:=wz w (.cells (exC x q c).toArray 37);obtain⟨U,hU⟩:=nm ((w.alloc (.cells (exC x q c).toArray 37)).alloc (.cells (ze r).toArray 30));rw [<- hU] at h1 h2 h3 h4;have f3:=zA U (.cells (ze zB).toArray 30);rw [h3] at f3;subst hU;exact⟨(),⟨.cons (by rw [hL];rfl) (.cons (by rw [hL,<- s1];rfl) (.cons (by rw [hL,<- h3];rfl) .nil)),rfl⟩,by rw [hL];exact qy _ h1,by rw [hL];exact qy _ h2,by rw [hL];exact f3,h4.alloc h4.size _⟩
 rintro _ X ⟨fX,fR,f0,hbX⟩;have zero:zlR x r=zB->∀ {Y:Wd},Bw X Y->SatR ((storeVar 30 ⟨L+2,0,none⟩ (.agg (ze zB).toArray)).run PG Y) fun _ w'=>∃ cells,cells.length=49/\zo w' ⟨L+2,0,none⟩ cells/\Ending.returned (.agg cells.toArray) = .returned (.agg (ze (zlR x r)).toArray)/\Bw w w':=fun h0 {Y} hb=>by
  rw [h0];exact zbS (zb hb f0) (by omega) ((zst hbX hb)) fun Z fZ bZ=>⟨ze zB,zf _,za fZ,rfl,bZ⟩
 refine⟨exC x q c,zH _ _ _,za fX,hlt fX,ze r,zf _,za fR,hlt fR,cmo (zpR (hv.below hbX) hr (hT.below hbX)) ?_⟩;rintro e Y ⟨rfl,hbY⟩;have bY:=zst hbX hbY;have fY:=zb hbY fX;refine biE (fun h2=>?_) fun h2=>?_
 ·have h2:zcn x r=false:=zi6 h2;refine⟨ze zB,by kernel_rfl,?_⟩;exact zero (Gw fun h=>by rw [h2] at h;cases h) hbY
 ·have h2:zcn x r=true:=zi5 h2;have h3:=zd7 h2;have e0:zlR x r=zhO x r:=Gx h2;rw [e0];refine⟨ze r,zf _,za (zb hbY fR),hlt (zb hbY fR),cmo (zu5 fY (hv.below bY) hr h3.2.1) ?_⟩;rintro e Z ⟨rfl,hbZ⟩;exact zbS (zb hbZ (zb hbY f0)) (by omega) ((zst bY hbZ)) fun V fV bV=>⟨ze (zhO x r),zf _,za fV,rfl,bV⟩
theorem zt6 {r:RelD} (hv:ExV w x q) (hr:zI r.to) (hT:Tz64M w):CB 101 #[.agg (exC x q c).toArray,.agg (ze r).toArray] w (.agg (ze (zlJ x r)).toArray):=by
 refine z6 14 [.agg (exC x q c).toArray,.agg (ze r).toArray] (.c .p .p) Tryz.func101 ?_;obtain⟨L,hL⟩:=nm (w.heap.size);have hn:=hv.n;refine⟨Unit,fun _=>⟨[(2,At0 L),(3,At0 (L+1)),(4,At0 (L+2))],[]⟩,fun _ X=>ExH X L x q c/\qj X (L+1) r/\qj X (L+2) zB/\Bw w X,?_,?_⟩
 ·obtain⟨h1,h2,h3,h4⟩:=zce w x q c r 30;have s1:=wz w (.cells (exC x q c).toArray 37);obtain⟨U,hU⟩:=nm ((w.alloc (.cells (exC x q c).toArray 37)).alloc (.cells (ze r).toArray 30));rw [<- hU] at h1 h2 h3 h4;have f3:=zA U (.cells (ze zB).toArray 30);rw [h3] at f3;subst hU;exact⟨(),⟨.cons (by rw [hL];rfl) (.cons (by rw [hL,<- s1];rfl) (.cons (by rw [hL,<- h3];rfl) .nil)),rfl⟩,by rw [hL];exact qy _ h1,by rw [hL];exact qy _ h2,by rw [hL];exact f3,h4.alloc h4.size _⟩
 rintro _ X ⟨fX,fR,f0,hbX⟩;have zero:zlJ x r=zB->∀ {Y:Wd},Bw X Y->SatR ((storeVar 30 ⟨L+2,0,none⟩ (.agg (ze zB).toArray)).run PG Y) fun _ w'=>∃ cells,cells.length=49/\zo w' ⟨L+2,0,none⟩ cells/\Ending.returned (.agg cells.toArray) = .returned (.agg (ze (zlJ x r)).toArray)/\Bw w w':=fun h0 {Y} hb=>by
  rw [h0];exact zbS (zb hb f0) (by omega) ((zst hbX hb)) fun Z fZ bZ=>⟨ze zB,zf _,za fZ,rfl,bZ⟩
 refine⟨exC x q c,zH _ _ _,za fX,hlt fX,ze r,zf _,za fR,hlt fR,cmo (zpR (hv.below hbX) hr (hT.below hbX)) ?_⟩;rintro e Y ⟨rfl,hbY⟩;have bY:=zst hbX hbY;have fY:=zb hbY fX;refine biE (fun h2=>?_) fun h2=>?_
 ·have h2:zcn x r=false:=zi6 h2;refine⟨ze zB,by kernel_rfl,?_⟩;exact zero (Gw fun h=>by rw [h2] at h;cases h) hbY
 ·have h2:zcn x r=true:=zi5 h2;have h3:=zd7 h2;have e0:zlJ x r=zn2 x r:=Gx h2;rw [e0];refine⟨i64 r.n,by have:=zc (za (zb hbY fR)) (i:=0) (v:=i64 r.n) rfl;exact this,?_⟩;have en:zn2 x r=zbm x.ev.length fun a d=>zcm r a d&&decide ((evA x a).th=(evA x d).th):=by
   unfold zn2;rw [h3.2.1];rfl
  rw [h3.2.1,en];refine cmo (zlv (n:=x.ev.length) (caps := #[At0 (L+1),At0 L]) (g:=148) (p:=fun a d=>zcm r a d&&decide ((evA x a).th=(evA x d).th)) (by omega) (by kernel_rfl) fun a d Z ha hd hb=>ztn (zb hb (zb hbY fR)) hr (zb hb fY) ((hv.below bY).below hb) ha hd) ?_;rintro e Z ⟨rfl,hbZ⟩;rw [<- en];exact zbS (zb hbZ (zb hbY f0)) (by omega) ((zst bY hbZ)) fun V fV bV=>⟨ze (zn2 x r),zf _,za fV,rfl,bV⟩
end
def sqR (r:RelD):RelD:=jG r.n.toNat fun a=>r.to a|||zdh r.to (r.to a)
def eqR (a b:RelD):Bool:=decide (a.n=b.n)&&(List.range 48).all fun i=>decide (a.to i=b.to i)
def zss:Nat->RelD->RelD
 | 0,r=>r
 | f+1,r=>if eqR (sqR r) r then r else zss f (sqR r)
def zsr (r:RelD):RelD:=if okR r then zss 2400 r else zB
def zun (r:RelD):RelD:=if okR r then (zox (zsr r) (idR r.n.toNat (zax r.n))).1 else zB
def ztm (r:RelD):Bool:=okR r&&(List.range r.n.toNat).all fun a => !(r.to a).testBit a
def zu4 (e:Ev) (s:Bs):Bool :=
 let rd:=decide (e.k=1);let wr:=decide (e.k=2);let fe:=decide (e.k=3)
 if s=[82] then rd
 else if s=[87] then wr
 else if s=[70] then fe
 else if s=[77] then rd||wr
 else if s=[65] then rd&&(decide (e.m=1)||decide (e.m=3))
 else if s=[76] then wr&&(decide (e.m=2)||decide (e.m=3))
 else if s=[88] then (rd||wr)&&decide (e.m=3)
 else if s=[70,70] then fe&&decide (e.m=3)
 else if s=[70,76] then fe&&decide (e.m=4)
 else if s=[70,83] then fe&&decide (e.m=5)
 else if s=[73] then decide (e.th = -1)
 else false
def zvx (x:ExD) (s:Bs):Nat:=orG ((List.range x.ev.length).filter fun i=>match x.ev[i]? with | some e=>zu4 e s | none=>false)
def zew (x:ExD):Bs->RelD:=fun s =>
 let n:=x.ev.length
 let cr:=zee n (zax n) (zax n)
 if s=[112,111] then x.po else if s=[114,102] then x.rf else if s=[99,111] then x.co else if s=[114,109,119] then x.rm
 else if s=[100,97,116,97] then x.dt else if s=[99,116,114,108] then x.ct else if s=[102,114] then frX x else if s=[108,111,99] then zlI x
 else if s=[105,100] then idR n (zax n) else if s=[101,120,116] then zlR x cr else if s=[105,110,116] then zlJ x cr else zB
section
variable (x:ExD) (rels:Bs->RelD)
def un3 (k:UInt8) (a:RelD):RelD:=if k=6 then qP a else if k=7 then zsr a else zun a
def zvW (k:UInt8) (a b:RelD):RelD:=if k=2 then (zox a b).1 else if k=3 then (zu9 a b).1 else if k=4 then (zth a b).1 else if k=5 then (zfE a b).1 else zB
mutual
def valT:Trm->RelD
 | .mk k nq kids =>
  if k=1 then rels nq
  else if k=9 then idR x.ev.length (zvx x nq)
  else if k=6\/k=7\/k=8 then un3 k (valH kids)
  else zvW k (valH kids) (valS kids)
def valH:List Trm->RelD
 | []=>zB
 | t::_=>valT t
def valS:List Trm->RelD
 | []=>zB
 | _::r=>valH r
end
end
def zro (rels:Bs->RelD) (s:Bs) (r:RelD):Bs->RelD:=fun t=>if t=s then r else rels t
def zdN (x:ExD):(Bs->RelD)->List LineD->Bool×Bs
 | _,[]=>(true,[])
 | g,l::r =>
  let v:=valT x g l.term
  if l.kind=0 then zdN x (zro g l.name v) r
  else if (if l.kind=1 then zjt v else if l.kind=2 then ztm v else zho v) then zdN x g r
  else (false,l.name)
def zlN (l:List LineD) (x:ExD):Option (Bool×Bs) :=
 if (jt l).isSome&&ja x then some (zdN x (zew x) l) else none
end Go.Proofs.YtnadlhpkpnfmbaaGreatDoor
namespace Go.Vc
open Go.RowKit
section
variable {P:Program} {κ:Type} [DecidableEq κ] {key:κ->Value} {K:TypeId}
theorem jN {T elem:TypeId} (hK:MapK P K key) (hu:P.underlying T=some (.map K elem)) {w:Wd} {r:Nat} {f:κ->Option Value} (h:MapF key w r f) (q:κ) (x:Value) :
  ∃ o,(Instr.mapUpdate T (.map (some r)) (key q) x).run P w = .ok () (w.putObj r o)/\MapF key (w.putObj r o) r (fun q'=>if q'=q then some x else f q'):=by
 obtain⟨es,clock,hh,hf,hn,hb,hc⟩:=h;have hg:(getObj r).run P w = .ok (.map (es.map (entry key)).toArray clock) w:=by simp [getObj,Sem.run,hh]
 have hset:∀ o,(setObj r o).run P w = .ok () (w.putObj r o):=fun o=>by simp [setObj,Sem.run,hh,World.putObj]
 have e:asF es q=f q:=hf q;unfold asF at e;simp only [Instr.mapUpdate,UY,Uu hu,Qa,hg,hK.check q _ w,zfQ hK q es w]
 cases hfl:zbb q es 0 with
 | none =>
  rw [hfl] at e;simp only [Option.map_none] at e;refine⟨.map ((es++[(q,x,clock)]).map (entry key)).toArray (clock+1),?_,?_⟩
  ·have e2:(es.map (entry key)).toArray.push { key:=key q,val:=x,born:=clock }=((es++[(q,x,clock)]).map (entry key)).toArray:=by
    rw [<- Qf];simp [entry]
   simp only [e2,hset]
  ·refine⟨es++[(q,x,clock)],clock+1,za9 hh,fun q'=>?_,?_,?_,?_⟩
   ·rw [zhz];by_cases hq:q'=q
    ·subst hq;rw [hf q',<- e];simp
    ·simp [hq,hf q']
   ·rw [QT,UE,UM];refine List.nodup_append.2 ⟨hn,by simp,?_⟩;intro a ha b hb';simp only [KA] at hb';subst hb';obtain⟨y,hy,rfl⟩:=UO.1 ha;exact zhl hfl y hy
   ·rw [QT,UE,UM];refine List.nodup_append.2 ⟨hb,by simp,?_⟩;intro a ha b hb';simp only [KA] at hb';subst hb';obtain⟨y,hy,rfl⟩:=UO.1 ha;exact Nat.ne_of_lt (hc y hy)
   ·intro y hy;rw [QU] at hy;rcases hy with hy | hy
    ·exact Nat.lt_succ_of_lt (hc y hy)
    ·simp only [KA] at hy;subst hy;exact QA _
 | some p =>
  obtain⟨j,v⟩:=p;obtain⟨b,_,hj⟩:=zhk hfl;rw [UW] at hj;have hm:(q,v,b)∈es:=JY hj;have hje:(es.map (entry key)).toArray[j]?=some (entry key (q,v,b)):=by simp [hj]
  have only:∀ i (hi:i<es.length),(es[i]).2.2=b->i=j:=fun i hi hbe=>by
   obtain⟨hjl,e2⟩:=Jq.1 hj;by_cases hij:i=j
   ·exact hij
   ·exfalso
    have h3:=(List.pairwise_iff_getElem.1 hb);rcases Nat.lt_or_gt_of_ne hij with hlt | hlt
    ·exact h3 i j (by simpa using hi) (by simpa using hjl) hlt (by simp [e2,hbe])
    ·exact h3 j i (by simpa using hjl) (by simpa using hi) hlt (by simp [e2,hbe])
  have hbq:∀ y∈es,y.2.2=b->y.1=q:=fun y hy hbe=>by
   obtain⟨i,hi,e1⟩:=Kh hy;have:=only i hi (by rw [e1];exact hbe);subst this;obtain⟨_,e2⟩:=Jq.1 hj;rw [<- e1,e2]
  have hmod:(es.map (entry key)).toArray.modify j (fun e=>{ e with key:=key q,val:=x })=((es.map fun e=>if e.2.2=b then (e.1,x,e.2.2) else e).map (entry key)).toArray:=by
   apply Array.ext_getElem?;intro i;rw [Array.getElem?_modify];by_cases hil:i<es.length
   ·by_cases hij:j=i
    ·subst hij;obtain⟨_,e2⟩:=Jq.1 hj;rw [Gx rfl,hje];simp [hil,e2,entry]
    ·rw [Gw hij];have:¬ (es[i]).2.2=b:=fun h=>hij (only i hil h).symm;simp [hil,this]
   ·have h1:(es.map (entry key)).toArray[i]?=none:=(by simp;omega);have h2:((es.map fun e=>if e.2.2=b then (e.1,x,e.2.2) else e).map (entry key)).toArray[i]?=none:=(by simp;omega);rw [h1,h2];split <;> rfl
  refine⟨.map ((es.map fun e=>if e.2.2=b then (e.1,x,e.2.2) else e).map (entry key)).toArray clock,?_,?_⟩
  ·simp only [hje,Uf,QE,entry,Instr.keyThatStays,hK.same q,Gu,UZ,Qa,UY];have hmod':=hmod;rw [hmod',hset]
  ·refine⟨_,clock,za9 hh,fun q'=>?_,?_,?_,?_⟩
   ·rw [zna x q q' es hn ⟨v,hm⟩ hbq,hf q']
   ·have:(es.map fun e=>if e.2.2=b then (e.1,x,e.2.2) else e).map (·.1)=es.map (·.1):=by
     rw [UL];apply Kj;intro e _;simp only [Ke];split <;> rfl
    rw [this];exact hn
   ·have:(es.map fun e=>if e.2.2=b then (e.1,x,e.2.2) else e).map (·.2.2)=es.map (·.2.2):=by
     rw [UL];apply Kj;intro e _;simp only [Ke];split <;> rfl
    rw [this];exact hb
   ·intro e he;obtain⟨y,hy,rfl⟩:=UO.1 he
    split
    ·exact hc y hy
    ·exact hc y hy
end
end Go.Vc
namespace Go.Proofs.YtnadlhpkpnfmbaaGreatDoor
open Go.Vc Go.RowKit
abbrev zbq (s:Bs):Value:=zn s
theorem zvb (a b:ByteArray):(a == b)=true↔a=b:=by
 rw [beq_toListBytes,beq_iff_eq,Kd,Kd];constructor
 ·intro h;obtain⟨⟨x⟩⟩:=a;obtain⟨⟨y⟩⟩:=b;exact Gq (fun l:List UInt8=>(⟨⟨l⟩⟩:ByteArray)) h
 ·rintro rfl;rfl
theorem ziu (a:Bs):(bs a == bs a)=true:=(zvb _ _).2 rfl
theorem zmT (a b:Bs):(bs a == bs b)=decide (a=b):=by
 by_cases h:a=b
 ·subst h;rw [ziu,Ut rfl]
 ·rw [Uj h];exact Bool.eq_false_iff.2 fun e=>h (ztS ((zvb _ _).1 e))
theorem zvU (d:Nat) (x y:Bs) (w:Wd):(Op.equalIn (d+1) 9 (zbq x) (zbq y)).run PG w = .ok (decide (x=y)) w:=by
 simp only [Op.equalIn,UY,Uu Tryz.underlying9,Qa,UZ,zn];rw [zmT]
theorem zu7 (e:Bool) (d:Nat) (q:Bs) (w:Wd):(Instr.checkKey e (d+1) 9 (zbq q)).run PG w = .ok () w:=by
 simp only [Instr.checkKey,UY,Uu Tryz.underlying9,Qa,UZ,zn]
theorem zjL:MapK PG 9 zbq where
 check:=fun q e w=>zu7 e 9999 q w
 eq:=fun q q' w=>zvU 9999 q q' w
 same:=fun q=>by simp only [Instr.sameBits,zn];exact ziu q
 desc:=⟨_,Tryz.underlying9,fun q q'=>by
  right;simp only [Instr.sameNow,zn];rw [zmT]⟩
end Go.Proofs.YtnadlhpkpnfmbaaGreatDoor
namespace Go.Proofs.YtnadlhpkpnfmbaaGreatDoor
open Go.Vc Go.RowKit Go.Sei
def u8n (n:Nat):Value := .int .u8 (n:Nat)
def zbw:List Nat:=[0,0,1,2,3,4,0,0,0,0]
def zeE:List Int:=[-1,0,2,2,2,2,1,1,1,0]
def jz:List Bs:=[[],[],[124],[38],[92],[59],[94,45,49],[43],[42],[]]
structure GlobK (w:Wd):Prop where
 op:zo w ⟨3,0,none⟩ (zS.map zn)
 st:zo w ⟨1,0,none⟩ (zbw.map fun n=>i64 (n:Nat))
 sg:zo w ⟨2,0,none⟩ (jz.map zn)
 nd:zo w ⟨0,0,none⟩ (zeE.map i64)
 lt:3<w.heap.size
theorem GlobK.below {w w2:Wd} (h:GlobK w) (hb:Bw w w2):GlobK w2 :=
 ⟨zw hb h.op,zw hb h.st,zw hb h.sg,zw hb h.nd,nL h.lt hb.size⟩
theorem zaB (c k:UInt8):decide ((c.toNat:Int)=(k.toNat:Int))=decide (c=k):=by
 rw [QH];constructor
 ·intro h;exact Uh.1 (by omega)
 ·rintro rfl;rfl
theorem zdU {s:Bs} {k:Nat} (h:k<s.length):(bs s).data.toList[k]?=some s[k]:=by
 show s[k]?=_;exact gE h
theorem zgY (c:UInt8) (w:Wd):Calls PG 156 #[u8 c] w fun e w'=>e = .returned (.bool (jq c))/\w=w':=by
 refine zD 9 [u8 c] Tryz.func156 ?_;refine biE (fun h=>?_) fun h=>?_
 ·have h:(97:Int)<=(c.toNat:Int):=dT h;refine⟨rb ?_,rfl⟩;unfold jq;rw [Ut (p:=97<=c.toNat) (by omega),Uz];show decide ((c.toNat:Int)<=122)=_;rw [QH];omega
 ·have h:¬ (97:Int)<=(c.toNat:Int):=dF h;refine⟨rb ?_,rfl⟩;unfold jq;rw [Uj (p:=97<=c.toNat) (by omega)];rfl
theorem zjG (c:UInt8) (w:Wd):Calls PG 160 #[u8 c] w fun e w'=>e = .returned (.bool (qm c))/\w=w':=by
 refine zD 9 [u8 c] Tryz.func160 ?_;refine biE (fun h=>?_) fun h=>?_
 ·have h:(65:Int)<=(c.toNat:Int):=dT h;refine⟨rb ?_,rfl⟩;unfold qm;rw [Ut (p:=65<=c.toNat) (by omega),Uz];show decide ((c.toNat:Int)<=90)=_;rw [QH];omega
 ·have h:¬ (65:Int)<=(c.toNat:Int):=dF h;refine⟨rb ?_,rfl⟩;unfold qm;rw [Uj (p:=65<=c.toNat) (by omega)];rfl
theorem zqm (c:UInt8) (w:Wd):Calls PG 154 #[u8 c] w fun e w'=>e = .returned (.bool (zW c))/\w=w':=by
 refine zD 9 [u8 c] Tryz.func154 ?_;unfold zW;refine biE (fun h=>?_) fun h=>?_
 ·have h:decide (c=32)=true:=(zaB c 32).symm.trans h;exact⟨rb (by rw [h];rfl),rfl⟩
 ·have h:decide (c=32)=false:=(zaB c 32).symm.trans h;exact⟨rb (by rw [h];exact zaB c 9),rfl⟩
theorem zre (c:UInt8) (w:Wd):Calls PG 155 #[u8 c] w fun e w'=>e = .returned (.bool (zcS c))/\w=w':=by
 refine zD 5 [u8 c] Tryz.func155 ?_;refine⟨rb ?_,rfl⟩;unfold zcS;have:=zaB c 10;rw [decide_not,<- this];rfl
theorem zpK (c:UInt8) (w:Wd):Calls PG 157 #[u8 c] w fun e w'=>e = .returned (.bool (z8 c))/\w=w':=by
 refine zD 17 [u8 c] Tryz.func157 ?_;refine cmo (zgY c w) ?_;rintro e _ ⟨rfl,rfl⟩;unfold z8;refine biE (fun h=>?_) fun h=>?_
 ·have h:jq c=true:=h;refine brT ?_;exact⟨rb (by rw [h];rfl),rfl⟩
 have h:jq c=false:=h;rw [h];refine biE (fun h1=>?_) fun h1=>?_
 ·have h1:(48:Int)<=(c.toNat:Int):=dT h1;have e1:decide (48<=c.toNat)=true:=Ut (by omega);rw [e1];refine biE (fun h2=>?_) fun h2=>?_
  ·have h2:(c.toNat:Int)<=57:=dT h2;exact⟨rb (by rw [Ut (p:=c.toNat<=57) (by omega)];rfl),rfl⟩
  ·have h2:¬ (c.toNat:Int)<=57:=dF h2;exact⟨rb (by rw [Uj (p:=c.toNat<=57) (by omega)];exact zaB c 45),rfl⟩
 ·have h1:¬ (48:Int)<=(c.toNat:Int):=dF h1;refine brF ?_;exact⟨rb (by rw [Uj (p:=48<=c.toNat) (by omega)];exact zaB c 45),rfl⟩
theorem zbN {p:UInt8->Bool} {s:Bs} {k:Nat} (h:k<s.length):qJ p s k=if p s[k] then qJ p s (k+1) else k:=by
 unfold qJ zbj;rw [Jo h,Km]
 split
 ·rw [Qt];omega
 ·rfl
theorem zes {p:UInt8->Bool} {s:Bs} {k:Nat} (h:s.length<=k):qJ p s k=k:=by
 unfold qJ zbj;rw [JA h];rfl
theorem zcx {p:UInt8->Bool} {s:Bs} {k:Nat} (h:k<=s.length):qJ p s k<=s.length:=by
 unfold qJ zbj;have:=(List.takeWhile_sublist p (l:=s.drop k)).length_le;rw [Qu] at this;omega
theorem zjS {p:UInt8->Bool} {s:Bs} {k:Nat}:k<=qJ p s k:=Qy _ _
theorem zjR {p:UInt8->Bool} {s:Bs} {k:Nat}:(s.drop k).take (qJ p s k-k)=zbj p s k:=by
 unfold qJ;rw [Jw];unfold zbj;exact (List.prefix_iff_eq_take.1 (List.takeWhile_prefix p)).symm
theorem znx (s:Bs) (a:Nat) (ha:a<=s.length) (hs:s.length<=140737488351232) (w:Wd):Calls PG 153 #[zn s,i64 (a:Nat),.func (.func 154) #[] #[]] w fun e w'=>e = .returned (i64 (qJ zW s a:Nat))/\w=w':=by
 refine zD 21 [zn s,i64 (a:Nat),.func (.func 154) #[] #[]] Tryz.func153 ?_;refine⟨Nat,fun k=>⟨[(0,zn s),(1,.int .i64 (k:Nat)),(2,.func (.func 154) #[] #[])],[]⟩,fun k X=>k<=s.length/\qJ zW s k=qJ zW s a/\w=X,fun k=>s.length-k,a,(cvE rfl rfl),⟨ha,rfl,rfl⟩,?_⟩;rintro k _ ⟨hk,he,rfl⟩;dsimp only at hk he ⊢;refine biE (fun hc=>?_) fun hc=>?_
 ·have hc:(k:Int)<(s.length:Int):=dT hc;have hl:k<s.length:=by omega
  refine⟨k,rfl,hl,s[k],zdU hl,?_⟩;refine cmo (zqm _ _) ?_;rintro e _ ⟨rfl,rfl⟩;refine biE (fun hi=>?_) fun hi=>?_
  ·have hi:zW s[k]=true:=hi;refine⟨(k+1:Nat),(zi (by omega)).trans (by omega),?_⟩;refine⟨k+1,(cvE rfl rfl),⟨hl,?_,rfl⟩,zdc (by omega)⟩;rw [zbN hl,Gx hi] at he;exact he
  ·have hi:zW s[k]=false:=hi;rw [zbN hl,Gw (by rw [hi];exact Ku)] at he;exact⟨by rw [<- he];rfl,rfl⟩
 ·have hc:¬ (k:Int)<(s.length:Int):=dF hc;refine brF ?_;rw [zes (by omega)] at he;exact⟨by rw [<- he];rfl,rfl⟩
theorem zoZ (s:Bs) (a:Nat) (ha:a<=s.length) (hs:s.length<=140737488351232) (w:Wd):Calls PG 153 #[zn s,i64 (a:Nat),.func (.func 155) #[] #[]] w fun e w'=>e = .returned (i64 (qJ zcS s a:Nat))/\w=w':=by
 refine zD 21 [zn s,i64 (a:Nat),.func (.func 155) #[] #[]] Tryz.func153 ?_;refine⟨Nat,fun k=>⟨[(0,zn s),(1,.int .i64 (k:Nat)),(2,.func (.func 155) #[] #[])],[]⟩,fun k X=>k<=s.length/\qJ zcS s k=qJ zcS s a/\w=X,fun k=>s.length-k,a,(cvE rfl rfl),⟨ha,rfl,rfl⟩,?_⟩;rintro k _ ⟨hk,he,rfl⟩;dsimp only at hk he ⊢;refine biE (fun hc=>?_) fun hc=>?_
 ·have hc:(k:Int)<(s.length:Int):=dT hc;have hl:k<s.length:=by omega
  refine⟨k,rfl,hl,s[k],zdU hl,?_⟩;refine cmo (zre _ _) ?_;rintro e _ ⟨rfl,rfl⟩;refine biE (fun hi=>?_) fun hi=>?_
  ·have hi:zcS s[k]=true:=hi;refine⟨(k+1:Nat),(zi (by omega)).trans (by omega),?_⟩;refine⟨k+1,(cvE rfl rfl),⟨hl,?_,rfl⟩,zdc (by omega)⟩;rw [zbN hl,Gx hi] at he;exact he
  ·have hi:zcS s[k]=false:=hi;rw [zbN hl,Gw (by rw [hi];exact Ku)] at he;exact⟨by rw [<- he];rfl,rfl⟩
 ·have hc:¬ (k:Int)<(s.length:Int):=dF hc;refine brF ?_;rw [zes (by omega)] at he;exact⟨by rw [<- he];rfl,rfl⟩
theorem zh5 (s:Bs) (a:Nat) (ha:a<=s.length) (hs:s.length<=140737488351232) (w:Wd):Calls PG 153 #[zn s,i64 (a:Nat),.func (.func 157) #[] #[]] w fun e w'=>e = .returned (i64 (qJ z8 s a:Nat))/\w=w':=by
 refine zD 21 [zn s,i64 (a:Nat),.func (.func 157) #[] #[]] Tryz.func153 ?_;refine⟨Nat,fun k=>⟨[(0,zn s),(1,.int .i64 (k:Nat)),(2,.func (.func 157) #[] #[])],[]⟩,fun k X=>k<=s.length/\qJ z8 s k=qJ z8 s a/\w=X,fun k=>s.length-k,a,(cvE rfl rfl),⟨ha,rfl,rfl⟩,?_⟩;rintro k _ ⟨hk,he,rfl⟩;dsimp only at hk he ⊢;refine biE (fun hc=>?_) fun hc=>?_
 ·have hc:(k:Int)<(s.length:Int):=dT hc;have hl:k<s.length:=by omega
  refine⟨k,rfl,hl,s[k],zdU hl,?_⟩;refine cmo (zpK _ _) ?_;rintro e _ ⟨rfl,rfl⟩;refine biE (fun hi=>?_) fun hi=>?_
  ·have hi:z8 s[k]=true:=hi;refine⟨(k+1:Nat),(zi (by omega)).trans (by omega),?_⟩;refine⟨k+1,(cvE rfl rfl),⟨hl,?_,rfl⟩,zdc (by omega)⟩;rw [zbN hl,Gx hi] at he;exact he
  ·have hi:z8 s[k]=false:=hi;rw [zbN hl,Gw (by rw [hi];exact Ku)] at he;exact⟨by rw [<- he];rfl,rfl⟩
 ·have hc:¬ (k:Int)<(s.length:Int):=dF hc;refine brF ?_;rw [zes (by omega)] at he;exact⟨by rw [<- he];rfl,rfl⟩
theorem znw (s:Bs) (a:Nat) (ha:a<=s.length) (hs:s.length<=140737488351232) (w:Wd):Calls PG 153 #[zn s,i64 (a:Nat),.func (.func 160) #[] #[]] w fun e w'=>e = .returned (i64 (qJ qm s a:Nat))/\w=w':=by
 refine zD 21 [zn s,i64 (a:Nat),.func (.func 160) #[] #[]] Tryz.func153 ?_;refine⟨Nat,fun k=>⟨[(0,zn s),(1,.int .i64 (k:Nat)),(2,.func (.func 160) #[] #[])],[]⟩,fun k X=>k<=s.length/\qJ qm s k=qJ qm s a/\w=X,fun k=>s.length-k,a,(cvE rfl rfl),⟨ha,rfl,rfl⟩,?_⟩;rintro k _ ⟨hk,he,rfl⟩;dsimp only at hk he ⊢;refine biE (fun hc=>?_) fun hc=>?_
 ·have hc:(k:Int)<(s.length:Int):=dT hc;have hl:k<s.length:=by omega
  refine⟨k,rfl,hl,s[k],zdU hl,?_⟩;refine cmo (zjG _ _) ?_;rintro e _ ⟨rfl,rfl⟩;refine biE (fun hi=>?_) fun hi=>?_
  ·have hi:qm s[k]=true:=hi;refine⟨(k+1:Nat),(zi (by omega)).trans (by omega),?_⟩;refine⟨k+1,(cvE rfl rfl),⟨hl,?_,rfl⟩,zdc (by omega)⟩;rw [zbN hl,Gx hi] at he;exact he
  ·have hi:qm s[k]=false:=hi;rw [zbN hl,Gw (by rw [hi];exact Ku)] at he;exact⟨by rw [<- he];rfl,rfl⟩
 ·have hc:¬ (k:Int)<(s.length:Int):=dF hc;refine brF ?_;rw [zes (by omega)] at he;exact⟨by rw [<- he];rfl,rfl⟩
theorem zpy (s:Bs):zaK s<=4:=by
 have:=List.findIdx_le_length (xs:=zS) (p:=fun w=>decide (w=s));exact this
def zdf (s:Bs):Int:=if zaK s<4 then (zaK s:Nat) else -1
theorem zpz {s:Bs} {k:Nat} (hk:k<zS.length) (h:zS[k]=s) (hno:∀ j (hj:j<zS.length),j<k->zS[j]≠s):zaK s=k:=by
 unfold zaK;have h2:zS.findIdx (fun w=>decide (w=s))<=k:=by
  refine Nat.le_of_not_lt fun hlt2=>?_;have:=List.not_of_lt_findIdx hlt2;simp [h] at this
 have h3:zS.findIdx (fun w=>decide (w=s))<zS.length:=KE h2 hk;have h4:zS[zS.findIdx (fun w=>decide (w=s))]=s:=by
  have:=List.findIdx_getElem (w:=h3);exact dT this
 rcases Nat.lt_or_ge (zS.findIdx (fun w=>decide (w=s))) k with h5 | h5
 ·exact Gy h4 (hno _ h3 h5)
 ·omega
theorem zkq (s:Bs) (w:Wd) (hg:GlobK w):Calls PG 106 #[zn s] w fun e w'=>e = .returned (i64 (zdf s))/\w=w':=by
 refine zD 15 [zn s] Tryz.func106 ?_;refine⟨zS.map zn,rfl,hg.op,hg.lt,?_⟩;refine⟨Nat,fun k=>⟨[(0,zn s),(5,.agg (zS.map zn).toArray),(6,.int .i64 (k:Nat))],[]⟩,fun k V=>k<=4/\(∀ j (hj:j<zS.length),j<k->zS[j]≠s)/\w=V,fun k=>4-k,0,
  (cvE rfl rfl),⟨Ge _,fun _ _ h=>Gy h (by omega),rfl⟩,?_⟩
 rintro k _ ⟨hk,hno,rfl⟩;refine biE (fun h=>?_) fun h=>?_
 ·have h:(k:Int)<4:=dT h;have hkl:k<zS.length:=by show k<4;omega
  refine⟨k,rfl,by omega,?_⟩;have hget:(zS.map zn)[k*1]?=some (zn zS[k]):=by
   rw [Gd,KU,gE hkl];rfl
  refine za5 hget ?_;refine⟨_,fun w=>zE _ _ zS[k] s w,?_⟩;refine biE (fun h1=>?_) fun h1=>?_
  ·have h1:zS[k]=s:=dT h1;have hi:=zpz hkl h1 hno;refine Gm ?_ rfl;unfold zdf;rw [hi,Gx (by omega)];rfl
  ·have h1:¬ zS[k]=s:=dF h1;refine⟨(k+1:Nat),(zi (by omega)).trans (by omega),?_⟩;refine⟨k+1,(cvE rfl rfl),⟨by omega,fun j hj hjk=>?_,rfl⟩,by dsimp only;omega⟩;by_cases e:j=k
   ·subst e;exact h1
   ·exact hno j hj (by omega)
 ·have h:¬ (k:Int)<4:=dF h;have hi:¬ zaK s<4:=fun h3=>by
   have h3:zS.findIdx (fun w=>decide (w=s))<zS.length:=h3;have h4:zS[zS.findIdx (fun w=>decide (w=s))]=s:=dT (List.findIdx_getElem (w:=h3));exact hno _ h3 (by have:zS.length=4:=rfl;omega) h4
  refine Gm ?_ rfl;unfold zdf;rw [Gw hi];rfl
theorem znY (s:Bs):decide ((0:Int)<=zdf s)=decide (zaK s<4):=by
 unfold zdf;rw [QH]
 split <;> omega
theorem zmV (s:Bs) (w:Wd) (hg:GlobK w):Calls PG 158 #[zn s] w fun e w'=>e = .returned (.bool (zg6 s))/\w=w':=by
 refine zD 10 [zn s] Tryz.func158 ?_;unfold zg6;refine⟨_,fun w=>zE _ _ s [97,115] w,?_⟩;refine biE (fun h=>?_) fun h=>?_
 ·have h:decide (s=[97,115])=true:=h;exact⟨rb (by rw [h];rfl),rfl⟩
 ·have h:decide (s=[97,115])=false:=h;rw [h];refine cmo (zkq s w hg) ?_;rintro e _ ⟨rfl,rfl⟩;exact⟨rb (znY s),rfl⟩
theorem qs {s w:Bs} (h:decide (s=w)=false):decide (w=s)=false:=Uj fun e=>dF h e.symm
theorem zgj (s:Bs) (w:Wd):Calls PG 93 #[zn s] w fun e w'=>e = .returned (.bool (jH s))/\w=w':=by
 refine zD 16 [zn s] Tryz.func93 ?_;refine⟨_,fun w=>zE _ _ s [112,111] w,?_⟩;refine biE (fun h0=>?_) fun h0=>?_
 ·refine brE h0 ?_;have e:s=[112,111]:=dT h0;exact⟨rb (by rw [e];rfl),rfl⟩
 refine⟨_,fun w=>zE _ _ s [114,102] w,?_⟩;refine biE (fun h1=>?_) fun h1=>?_
 ·refine brE h1 ?_;have e:s=[114,102]:=dT h1;exact⟨rb (by rw [e];rfl),rfl⟩
 refine⟨_,fun w=>zE _ _ s [99,111] w,?_⟩;refine biE (fun h2=>?_) fun h2=>?_
 ·refine brE h2 ?_;have e:s=[99,111]:=dT h2;exact⟨rb (by rw [e];rfl),rfl⟩
 refine⟨_,fun w=>zE _ _ s [102,114] w,?_⟩;refine biE (fun h3=>?_) fun h3=>?_
 ·refine brE h3 ?_;have e:s=[102,114]:=dT h3;exact⟨rb (by rw [e];rfl),rfl⟩
 refine⟨_,fun w=>zE _ _ s [114,109,119] w,?_⟩;refine biE (fun h4=>?_) fun h4=>?_
 ·refine brE h4 ?_;have e:s=[114,109,119]:=dT h4;exact⟨rb (by rw [e];rfl),rfl⟩
 refine⟨_,fun w=>zE _ _ s [100,97,116,97] w,?_⟩;refine biE (fun h5=>?_) fun h5=>?_
 ·refine brE h5 ?_;have e:s=[100,97,116,97]:=dT h5;exact⟨rb (by rw [e];rfl),rfl⟩
 refine⟨_,fun w=>zE _ _ s [99,116,114,108] w,?_⟩;refine biE (fun h6=>?_) fun h6=>?_
 ·refine brE h6 ?_;have e:s=[99,116,114,108]:=dT h6;exact⟨rb (by rw [e];rfl),rfl⟩
 refine⟨_,fun w=>zE _ _ s [108,111,99] w,?_⟩;refine biE (fun h7=>?_) fun h7=>?_
 ·refine brE h7 ?_;have e:s=[108,111,99]:=dT h7;exact⟨rb (by rw [e];rfl),rfl⟩
 refine⟨_,fun w=>zE _ _ s [105,100] w,?_⟩;refine biE (fun h8=>?_) fun h8=>?_
 ·refine brE h8 ?_;have e:s=[105,100]:=dT h8;exact⟨rb (by rw [e];rfl),rfl⟩
 refine⟨_,fun w=>zE _ _ s [101,120,116] w,?_⟩;refine biE (fun h9=>?_) fun h9=>?_
 ·refine brE h9 ?_;have e:s=[101,120,116]:=dT h9;exact⟨rb (by rw [e];rfl),rfl⟩
 refine⟨_,fun w=>zE _ _ s [105,110,116] w,?_⟩;refine biE (fun h10=>?_) fun h10=>?_
 ·have e:s=[105,110,116]:=dT h10;exact⟨rb (by rw [e];rfl),rfl⟩
 refine⟨rb ?_,rfl⟩;unfold jH;simp only [UD,List.any_nil,qs h0,qs h1,qs h2,qs h3,qs h4,qs h5,qs h6,qs h7,qs h8,qs h9,qs h10,Uy]
theorem zmU (s:Bs) (w:Wd):Calls PG 94 #[zn s] w fun e w'=>e = .returned (.bool (zfd s))/\w=w':=by
 refine zD 16 [zn s] Tryz.func94 ?_;refine⟨_,fun w=>zE _ _ s [82] w,?_⟩;refine biE (fun h0=>?_) fun h0=>?_
 ·refine brE h0 ?_;have e:s=[82]:=dT h0;exact⟨rb (by rw [e];rfl),rfl⟩
 refine⟨_,fun w=>zE _ _ s [87] w,?_⟩;refine biE (fun h1=>?_) fun h1=>?_
 ·refine brE h1 ?_;have e:s=[87]:=dT h1;exact⟨rb (by rw [e];rfl),rfl⟩
 refine⟨_,fun w=>zE _ _ s [70] w,?_⟩;refine biE (fun h2=>?_) fun h2=>?_
 ·refine brE h2 ?_;have e:s=[70]:=dT h2;exact⟨rb (by rw [e];rfl),rfl⟩
 refine⟨_,fun w=>zE _ _ s [77] w,?_⟩;refine biE (fun h3=>?_) fun h3=>?_
 ·refine brE h3 ?_;have e:s=[77]:=dT h3;exact⟨rb (by rw [e];rfl),rfl⟩
 refine⟨_,fun w=>zE _ _ s [65] w,?_⟩;refine biE (fun h4=>?_) fun h4=>?_
 ·refine brE h4 ?_;have e:s=[65]:=dT h4;exact⟨rb (by rw [e];rfl),rfl⟩
 refine⟨_,fun w=>zE _ _ s [76] w,?_⟩;refine biE (fun h5=>?_) fun h5=>?_
 ·refine brE h5 ?_;have e:s=[76]:=dT h5;exact⟨rb (by rw [e];rfl),rfl⟩
 refine⟨_,fun w=>zE _ _ s [88] w,?_⟩;refine biE (fun h6=>?_) fun h6=>?_
 ·refine brE h6 ?_;have e:s=[88]:=dT h6;exact⟨rb (by rw [e];rfl),rfl⟩
 refine⟨_,fun w=>zE _ _ s [70,70] w,?_⟩;refine biE (fun h7=>?_) fun h7=>?_
 ·refine brE h7 ?_;have e:s=[70,70]:=dT h7;exact⟨rb (by rw [e];rfl),rfl⟩
 refine⟨_,fun w=>zE _ _ s [70,76] w,?_⟩;refine biE (fun h8=>?_) fun h8=>?_
 ·refine brE h8 ?_;have e:s=[70,76]:=dT h8;exact⟨rb (by rw [e];rfl),rfl⟩
 refine⟨_,fun w=>zE _ _ s [70,83] w,?_⟩;refine biE (fun h9=>?_) fun h9=>?_
 ·refine brE h9 ?_;have e:s=[70,83]:=dT h9;exact⟨rb (by rw [e];rfl),rfl⟩
 refine⟨_,fun w=>zE _ _ s [73] w,?_⟩;refine biE (fun h10=>?_) fun h10=>?_
 ·have e:s=[73]:=dT h10;exact⟨rb (by rw [e];rfl),rfl⟩
 refine⟨rb ?_,rfl⟩;unfold zfd;simp only [UD,List.any_nil,qs h0,qs h1,qs h2,qs h3,qs h4,qs h5,qs h6,qs h7,qs h8,qs h9,qs h10,Uy]
def qb (t:Tk):List Value:=[u8n t.kind,zn t.text,i64 (t.at_:Nat)]
theorem zjM (k:Nat) (t:Bs) (a:Nat) (w:Wd):CB 159 #[u8n k,zn t,i64 (a:Nat)] w (.agg (qb (jA k t a)).toArray):=by
 refine zD 16 [u8n k,zn t,i64 (a:Nat)] Tryz.func159 ?_;have f0:=zA w (.cells #[.int .u8 0,zn [],i64 0] 134);have b0:Bw w (w.alloc (.cells #[.int .u8 0,zn [],i64 0] 134)):=zba w _;have fin:∀ {T:Tk} {K:Wd->Prop},(∀ Y,Bw w Y->Y.heap[w.heap.size]?=some (.cells (qb T).toArray 134 (0,0))->K Y)->SatR ((storeVar 134 ⟨w.heap.size,0,none⟩ (.agg (qb T).toArray)).run PG (w.alloc (.cells #[.int .u8 0,zn [],i64 0] 134))) fun _ w'=>K w' :=
  fun {T K} k=>zy ztl f0 rfl rfl rfl (k _ (zl b0 (Gc _) _) (zq f0))
 refine biE (fun h=>?_) fun h=>?_
 ·have h:(16:Int)<(t.length:Int):=dT h;have e1:jA k t a=⟨0,[],a⟩:=by unfold jA;rw [Gx (by omega)]
  rw [e1];refine⟨qb ⟨0,[],a⟩,rfl,?_⟩;refine fin (T:=⟨0,[],a⟩) fun Y hb f=>?_;exact⟨qb ⟨0,[],a⟩,rfl,za f,rfl,hb⟩
 ·have h:¬ (16:Int)<(t.length:Int):=dF h;have e1:jA k t a=⟨k,t,a⟩:=by unfold jA;rw [Gw (by omega)]
  rw [e1];refine⟨qb ⟨k,t,a⟩,rfl,?_⟩;refine fin (T:=⟨k,t,a⟩) fun Y hb f=>?_;exact⟨qb ⟨k,t,a⟩,rfl,za f,rfl,hb⟩
end Go.Proofs.YtnadlhpkpnfmbaaGreatDoor
namespace Go.Proofs
open Go.Shelf
def Tryz.lays137_ren:Go.Shelf.Ren:=⟨fun | 137=>161 | 217=>204 | 266=>235 | n=>n,fun | 9=>9 | 5=>5 | 3=>3 | n=>n,fun | n=>n⟩
theorem Tryz.lays137:Go.Proofs.Lays.n137 PG Tryz.lays137_ren:={
 mixed:=by kernel_rfl
 f137:=Tryz.func161.trans (Gq some (by kernel_rfl))
 f217:=Tryz.func204.trans (Gq some (by kernel_rfl))
 f266:=Tryz.func235.trans (Gq some (by kernel_rfl))
 t3:=Tryz.underlying3
 a3:=Tryz.isAgg3
 z3:=Tryz.sizeOf3
 v3:=Tryz.zeroValue3
 t5:=Tryz.underlying5
 a5:=Tryz.isAgg5
 z5:=Tryz.sizeOf5
 v5:=Tryz.zeroValue5
 t9:=Tryz.underlying9
 a9:=Tryz.isAgg9
 z9:=Tryz.sizeOf9
 v9:=Tryz.zeroValue9 }
open Go.RowKit in
theorem Tryz.strings_IndexByte (s:ByteArray) (c:Int) (w:Wd) :
  Calls PG 161 #[.string s,.int .u8 c] w fun e w'=>e = .returned (.int .i64 (Lib.indexByte s.data.toList c.toNat.toUInt8))∧w'=w:=Any.strings_IndexByte Tryz.lays137 s c w
def Tryz.lays99_ren:Go.Shelf.Ren:=⟨fun | 99=>73 | 206=>124 | n=>n,fun | 9=>9 | 4=>4 | 3=>3 | n=>n,fun | n=>n⟩
theorem Tryz.lays99:Go.Proofs.Lays.n99 PG Tryz.lays99_ren:={
 mixed:=by kernel_rfl
 f99:=Tryz.func73.trans (Gq some (by kernel_rfl))
 f206:=Tryz.func124.trans (Gq some (by kernel_rfl))
 t3:=Tryz.underlying3
 a3:=Tryz.isAgg3
 z3:=Tryz.sizeOf3
 v3:=Tryz.zeroValue3
 t4:=Tryz.underlying4
 a4:=Tryz.isAgg4
 z4:=Tryz.sizeOf4
 v4:=Tryz.zeroValue4
 t9:=Tryz.underlying9
 a9:=Tryz.isAgg9
 z9:=Tryz.sizeOf9
 v9:=Tryz.zeroValue9 }
open Go.RowKit Go.Lib in
theorem Tryz.strings_HasPrefix (s p:ByteArray) (w:Wd) :
  Calls PG 73 #[.string s,.string p] w fun e w'=>e = .returned (.bool (Lib.hasPrefix s.data.toList p.data.toList))∧w'=w:=Any.strings_HasPrefix Tryz.lays99 s p w
def Tryz.lays155_ren:Go.Shelf.Ren:=⟨fun | 155=>37 | 154=>79 | 138=>127 | 165=>74 | 143=>128 | 166=>75 | 197=>129 | 169=>77 | 195=>173 | 218=>174 | 240=>125 | 241=>126 | 219=>175 | 260=>176 | 276=>171 | 277=>172 | 217=>204 | 225=>217 | 224=>218 | 267=>219 | 266=>235 | 314=>236 | n=>n,fun | 9=>9 | 3=>3 | 4=>4 | 72=>147 | 0=>0 | 76=>151 | 105=>218 | 21=>21 | 5=>5 | 70=>145 | 20=>20 | 37=>72 | 75=>150 | 127=>216 | 164=>270 | 46=>141 | 119=>302 | 139=>305 | 138=>304 | 146=>212 | 51=>211 | 80=>154 | n=>n,fun | 1=>5 | 3=>6 | 4=>7 | n=>n⟩
theorem Tryz.lays155:Go.Proofs.Lays.n155 PG Tryz.lays155_ren:={
 mixed:=by kernel_rfl
 f138:=Tryz.func127.trans (Gq some (by kernel_rfl))
 f143:=Tryz.func128.trans (Gq some (by kernel_rfl))
 f154:=Tryz.func79.trans (Gq some (by kernel_rfl))
 f155:=Tryz.func37.trans (Gq some (by kernel_rfl))
 f165:=Tryz.func74.trans (Gq some (by kernel_rfl))
 f166:=Tryz.func75.trans (Gq some (by kernel_rfl))
 f169:=Tryz.func77.trans (Gq some (by kernel_rfl))
 f195:=Tryz.func173.trans (Gq some (by kernel_rfl))
 f197:=Tryz.func129.trans (Gq some (by kernel_rfl))
 f217:=Tryz.func204.trans (Gq some (by kernel_rfl))
 f218:=Tryz.func174.trans (Gq some (by kernel_rfl))
 f219:=Tryz.func175.trans (Gq some (by kernel_rfl))
 f224:=Tryz.func218.trans (Gq some (by kernel_rfl))
 f225:=Tryz.func217.trans (Gq some (by kernel_rfl))
 f240:=Tryz.func125.trans (Gq some (by kernel_rfl))
 f241:=Tryz.func126.trans (Gq some (by kernel_rfl))
 f260:=Tryz.func176.trans (Gq some (by kernel_rfl))
 f266:=Tryz.func235.trans (Gq some (by kernel_rfl))
 f267:=Tryz.func219.trans (Gq some (by kernel_rfl))
 f276:=Tryz.func171.trans (Gq some (by kernel_rfl))
 f277:=Tryz.func172.trans (Gq some (by kernel_rfl))
 f314:=Tryz.func236.trans (Gq some (by kernel_rfl))
 t0:=Tryz.underlying0
 a0:=Tryz.isAgg0
 z0:=Tryz.sizeOf0
 v0:=Tryz.zeroValue0
 t3:=Tryz.underlying3
 a3:=Tryz.isAgg3
 z3:=Tryz.sizeOf3
 v3:=Tryz.zeroValue3
 t4:=Tryz.underlying4
 a4:=Tryz.isAgg4
 z4:=Tryz.sizeOf4
 v4:=Tryz.zeroValue4
 t5:=Tryz.underlying5
 a5:=Tryz.isAgg5
 z5:=Tryz.sizeOf5
 v5:=Tryz.zeroValue5
 t9:=Tryz.underlying9
 a9:=Tryz.isAgg9
 z9:=Tryz.sizeOf9
 v9:=Tryz.zeroValue9
 t20:=Tryz.underlying20
 a20:=Tryz.isAgg20
 z20:=Tryz.sizeOf20
 v20:=Tryz.zeroValue20
 t21:=Tryz.underlying21
 a21:=Tryz.isAgg21
 z21:=Tryz.sizeOf21
 v21:=Tryz.zeroValue21
 t37:=Tryz.underlying72
 a37:=Tryz.isAgg72
 z37:=Tryz.sizeOf72
 v37:=Tryz.zeroValue72
 t46:=Tryz.underlying141
 a46:=Tryz.isAgg141
 z46:=Tryz.sizeOf141
 v46:=Tryz.zeroValue141
 t51:=Tryz.underlying211
 a51:=Tryz.isAgg211
 z51:=Tryz.sizeOf211
 v51:=Tryz.zeroValue211
 t70:=Tryz.underlying145
 a70:=Tryz.isAgg145
 z70:=Tryz.sizeOf145
 v70:=Tryz.zeroValue145
 t72:=Tryz.underlying147
 a72:=Tryz.isAgg147
 z72:=Tryz.sizeOf147
 v72:=Tryz.zeroValue147
 t75:=Tryz.underlying150
 a75:=Tryz.isAgg150
 z75:=Tryz.sizeOf150
 v75:=Tryz.zeroValue150
 t76:=Tryz.underlying151
 a76:=Tryz.isAgg151
 z76:=Tryz.sizeOf151
 v76:=Tryz.zeroValue151
 t105:=Tryz.underlying218
 a105:=Tryz.isAgg218
 z105:=Tryz.sizeOf218
 v105:=Tryz.zeroValue218
 t119:=Tryz.underlying302
 a119:=Tryz.isAgg302
 z119:=Tryz.sizeOf302
 t127:=Tryz.underlying216
 a127:=Tryz.isAgg216
 z127:=Tryz.sizeOf216
 v127:=Tryz.zeroValue216
 t138:=Tryz.underlying304
 a138:=Tryz.isAgg304
 z138:=Tryz.sizeOf304
 v138:=Tryz.zeroValue304
 t139:=Tryz.underlying305
 a139:=Tryz.isAgg305
 z139:=Tryz.sizeOf305
 v139:=Tryz.zeroValue305
 t146:=Tryz.underlying212
 a146:=Tryz.isAgg212
 z146:=Tryz.sizeOf212
 v146:=Tryz.zeroValue212
 t164:=Tryz.underlying270
 a164:=Tryz.isAgg270
 z164:=Tryz.sizeOf270
 v164:=Tryz.zeroValue270
 g1:=by kernel_rfl
 g3:=by kernel_rfl
 g4:=by kernel_rfl }
theorem Tryz.Builder_Extra_155:Builder.Extra PG Tryz.lays155_ren:={
 sizeBuilder:=by kernel_rfl
 liesBuilder:=by kernel_rfl
 t5:=Tryz.underlying5
 a5:=Tryz.isAgg5
 z5:=Tryz.sizeOf5
 v5:=Tryz.zeroValue5
 infoByte:=by kernel_rfl
 cellsByte:=by kernel_rfl
 sizeByte:=by kernel_rfl
 neB5:=by decide }
open Go.RowKit Go.Lib in
theorem Tryz.strings_ReplaceAll (s old new:ByteArray) (m:Int) (w:Wd) (hs:s.size<4294967281) (hm:w.cell? ⟨5,0,none⟩=some (.int .i64 m)) (h1:1≤old.size) (hlen:s.size+Lib.countB s old*new.size≤140737488355328) :
  Calls PG 37 #[.string s,.string old,.string new] w fun e w' =>
   e = .returned (.string ⟨(Lib.replaceAll s.data.toList old.data.toList new.data.toList).toArray⟩)∧Below w.heap.size w w':=Any.strings_ReplaceAll Tryz.lays155 Tryz.Builder_Extra_155 s old new m w hs hm h1 hlen
end Go.Proofs
namespace Go.Proofs.YtnadlhpkpnfmbaaGreatDoor
open Go.Vc Go.RowKit Go.Sei
theorem zpM (l:Bs) (c:UInt8):decide ((0:Int)<=Lib.indexByte l c)=decide (c∈l):=by
 have low:∀ l:Bs,-1<=Lib.indexByte l c:=fun l=>by
  induction l with
  | nil=>exact Int.le_refl _
  | cons b r ih =>
   unfold Lib.indexByte
   split
   ·omega
   ·split <;> omega
 rw [QH]
 induction l with
 | nil=>exact⟨fun h=>Gy h (by unfold Lib.indexByte;decide),fun h=>by cases h⟩
 | cons b r ih =>
  unfold Lib.indexByte;by_cases hb:b=c
  ·subst hb;rw [Gx (by simp)];exact⟨fun _=>Kz,fun _=>Int.le_refl _⟩
  ·rw [Gw (by simpa using hb)];have hl:=low r;by_cases h1:Lib.indexByte r c = -1
   ·rw [Gx (by simpa using h1)];refine⟨fun h=>Gy h (by decide),fun h=>?_⟩;rcases UF.1 h with h | h
    ·exact Gy h.symm hb
    ·have:=ih.2 h;omega
   ·rw [Gw (by simpa using h1)];refine⟨fun _=>JW _ (ih.1 (by omega)),fun _=>by omega⟩
theorem zvz (s:Bs) (a:Nat):Lib.hasPrefix (s.drop a) [94,45,49]=decide ((s.drop a).take 3=[94,45,49]):=by
 unfold Lib.hasPrefix;rw [Bool.eq_iff_iff,List.isPrefixOf_iff_prefix,dE,List.prefix_iff_eq_take];exact eq_comm
theorem zmt {s:Bs} {a:Nat} (h:a<=s.length):zbL s a<=s.length:=by
 unfold zbL
 split
 ·exact zcx (zcx h)
 ·exact zcx h
theorem zmr {s:Bs} {a:Nat} (h:a<=s.length):(qW s a).at_+(qW s a).text.length<=s.length:=by
 have sh:∀ {k:Nat} {t:Bs} {a:Nat},a+t.length<=s.length->(jA k t a).at_+(jA k t a).text.length<=s.length:=fun {k t a} h=>by
  unfold jA
  split
  ·show a+0<=_;omega
  ·exact h
 have rl:∀ {p:UInt8->Bool},a+(zbj p s a).length<=s.length:=fun {p}=>zcx h;unfold qW
 split
 ·exact h
 ·rename_i c hc;have hl:=(Jq.1 hc).1
  split
  ·show a+1<=_;omega
  ·split
   ·split
    ·exact rl
    ·exact sh rl
   ·split
    ·exact sh rl
    ·split
     ·show a+1<=_;omega
     ·split
      ·rename_i h3;have:=Gq List.length h3;rw [Qv,Qu] at this;show a+3<=_;simp at this;omega
      ·exact h
theorem zoY {s:Bs} {a:Nat} (h:a<=s.length):(zr s a).at_+(zr s a).text.length<=s.length:=zmr (zmt h)
theorem zgo (s:Bs) (a b:Nat):(bs s).extract a b=bs ((s.drop a).take (b-a)):=by
 have:((bs s).extract a b).data.toList=(s.drop a).take (b-a):=by
  simp [bs]
 have h2:(bs ((s.drop a).take (b-a))).data.toList=(s.drop a).take (b-a):=rfl;exact Gq (fun l:List UInt8=>(⟨⟨l⟩⟩:ByteArray)) (this.trans h2.symm)
section
variable {s:Bs} {a:Nat} {w:Wd}
theorem zqY (hg:GlobK w) (ha:a<=s.length) (hs:s.length<=140737488351232):CB 105 #[zn s,i64 (a:Nat)] w (.agg (qb (zr s a)).toArray):=by
 refine z6 90 [zn s,i64 (a:Nat)] (.c .p (.s .p (.c .p .p))) Tryz.func105 ?_;refine⟨Unit,fun _=>⟨[(0,zn s),(1,i64 (a:Nat)),(4,At0 w.heap.size)],[]⟩,fun _ X=>X.heap[w.heap.size]?=some (.cells #[.int .u8 0,zn [],i64 0] 134 (0,0))/\Bw w X,⟨(),(cvE rfl rfl),zA w _,zba _ _⟩,?_⟩;rintro _ X ⟨f0,b0⟩;have gX:=hg.below b0;refine cmo (znx s a ha hs X) ?_;rintro e _ ⟨rfl,rfl⟩;have h1:=zcx (p:=zW) ha;obtain⟨k,hk⟩:=nm (zbL s a);have hkl:k<=s.length:=by rw [hk];exact zmt ha
 refine⟨Unit,fun _=>⟨[(0,zn s),(1,i64 (k:Nat)),(4,.pointer (some ⟨w.heap.size,0,none⟩))],[]⟩,fun _ Y=>X=Y,?_,?_⟩
 ·have no:∀ {n:Nat},n=qJ zW s a->s[n]?≠some 35->n=k:=fun {n} e h=>by
   rw [hk,e];unfold zbL;rw [Gw (by rw [<- e];exact h)]
  refine biE (fun hc=>?_) fun hc=>?_
  ·have hc:(qJ zW s a:Int)<(s.length:Int):=dT hc;have hl:qJ zW s a<s.length:=by omega
   refine⟨qJ zW s a,rfl,hl,s[qJ zW s a],zdU hl,biE (fun h2=>?_) fun h2=>?_⟩
   ·have h2:s[qJ zW s a]=35:=dT ((zaB _ 35).symm.trans h2);refine cmo (zoZ s (qJ zW s a) h1 hs X) ?_;rintro e _ ⟨rfl,rfl⟩;have e:qJ zcS s (qJ zW s a)=k:=by
     rw [hk];unfold zbL;rw [Gx (by rw [gE hl,h2])]
    exact⟨(),⟨.cons rfl (.cons (Gq (fun n:Nat=>some (i64 (n:Nat))) e) (.cons rfl .nil)),rfl⟩,rfl⟩
   ·have h2:s[qJ zW s a]≠35:=dF ((zaB _ 35).symm.trans h2);have e:=no rfl (by rw [gE hl];intro e;exact h2 (Ug e));exact⟨(),⟨.cons rfl (.cons (Gq (fun n:Nat=>some (i64 (n:Nat))) e) (.cons rfl .nil)),rfl⟩,rfl⟩
  ·have hc:¬ (qJ zW s a:Int)<(s.length:Int):=dF hc;refine brF ?_;have e:=no rfl (by rw [JJ (by omega)];exact fun h=>by cases h);exact⟨(),⟨.cons rfl (.cons (Gq (fun n:Nat=>some (i64 (n:Nat))) e) (.cons rfl .nil)),rfl⟩,rfl⟩
 rintro _ _ rfl;have es:zr s a=qW s k:=by rw [hk];rfl
 rw [es];clear es hk h1;have fin:∀ {T:Tk} {Z:Wd} {K:Wd->Prop},Bw X Z->(∀ Y,Bw w Y->Y.heap[w.heap.size]?=some (.cells (qb T).toArray 134 (0,0))->K Y)->SatR ((storeVar 134 ⟨w.heap.size,0,none⟩ (.agg (qb T).toArray)).run PG Z) fun _ w'=>K w' :=
  fun {T Z K} hb k=>zy ztl (zb hb f0) rfl rfl rfl (k _ (zl ((zst b0 hb)) (Gc _) _) (zq (zb hb f0)))
 have out:∀ {T:Tk} {Y:Wd},Bw w Y->Y.heap[w.heap.size]?=some (.cells (qb T).toArray 134 (0,0))->T=qW s k->∃ us:List Value,us.length=3/\zo Y ⟨w.heap.size,0,none⟩ us/\Ending.returned (jI [.agg us.toArray]) = .returned (.agg (qb (qW s k)).toArray)/\Bw w Y :=
  fun {T Y} hb f e=>⟨qb T,rfl,za f,by rw [e];rfl,hb⟩
 refine biE (fun hc=>?_) fun hc=>?_
 ·have hc:(k:Int)=(s.length:Int):=dT hc;refine⟨qb ⟨1,[],k⟩,rfl,fin (T:=⟨1,[],k⟩) (Gh _ _) fun Y hb f=>out hb f ?_⟩;unfold qW;rw [JJ (by omega)]
 have hc:¬ (k:Int)=(s.length:Int):=dF hc;have hl:k<s.length:=by omega
 refine⟨k,rfl,hl,s[k],zdU hl,?_⟩;obtain⟨c,hcc⟩:=nm (s[k]);rw [<- hcc];have ek:s[k]?=some c:=by rw [gE hl,hcc]
 have ew:((k+1:Nat):Int)=(k:Int)+1:=by omega
 have cut1:(s.drop k).take 1=[c]:=by rw [Jo hl,hcc];rfl
 have hcut1:(bs s).extract k (k+1)=bs [c]:=by rw [zgo,Jw,cut1]
 refine biE (fun h10=>?_) fun h10=>?_
 ·have h10:c=10:=dT ((zaB c 10).symm.trans h10);have e:qW s k=⟨2,[c],k⟩:=by unfold qW;rw [ek];simp only [Gx h10]
  refine⟨(k+1:Nat),(zi (by omega)).trans ew.symm,k+1,rfl,hl,k,rfl,by omega,?_⟩;refine⟨qb ⟨2,[c],k⟩,by rw [hcut1];rfl,?_⟩;exact fin (T:=⟨2,[c],k⟩) (Gh _ _) fun Y hb f=>out hb f e.symm
 have h10:c≠10:=dF ((zaB c 10).symm.trans h10);refine cmo (zgY c X) ?_;rintro e _ ⟨rfl,rfl⟩;refine biE (fun hlo=>?_) fun hlo=>?_
 ·have hlo:jq c=true:=hlo;refine cmo (zh5 s k hkl hs X) ?_;rintro e _ ⟨rfl,rfl⟩;have hr:=zcx (p:=z8) hkl;refine⟨qJ z8 s k,rfl,hr,k,rfl,zjS,?_⟩;have hcut:zn (zbj z8 s k) = .string ((bs s).extract k (qJ z8 s k)):=by rw [zgo,zjR];rfl
  have hik:=zmV (zbj z8 s k) X gX;rw [hcut] at hik;refine cmo hik ?_;rintro e _ ⟨rfl,rfl⟩;refine biE (fun hk=>?_) fun hk=>?_
  ·have hk:zg6 (zbj z8 s k)=true:=hk;refine⟨qb ⟨3,zbj z8 s k,k⟩,by rw [<- hcut];rfl,?_⟩;refine fin (T:=⟨3,zbj z8 s k,k⟩) (Gh _ _) fun Y hb f=>out hb f ?_;unfold qW;rw [ek];simp only [Gw h10,Gx hlo,Gx hk]
  ·have hk:zg6 (zbj z8 s k)=false:=hk;have hsh:=zjM 4 (zbj z8 s k) k X;rw [hcut] at hsh;refine cmo hsh ?_;rintro e Z ⟨rfl,hbZ⟩;refine fin (T:=jA 4 (zbj z8 s k) k) hbZ fun Y hb f=>out hb f ?_;unfold qW;rw [ek];simp only [Gw h10,Gx hlo,hk,Kt,Gr]
 have hlo:jq c=false:=hlo;refine cmo (zjG c X) ?_;rintro e _ ⟨rfl,rfl⟩;refine biE (fun hup=>?_) fun hup=>?_
 ·have hup:qm c=true:=hup;refine cmo (znw s k hkl hs X) ?_;rintro e _ ⟨rfl,rfl⟩;have hr:=zcx (p:=qm) hkl;refine⟨qJ qm s k,rfl,hr,k,rfl,zjS,?_⟩;have hcut:zn (zbj qm s k) = .string ((bs s).extract k (qJ qm s k)):=by rw [zgo,zjR];rfl
  have hsh:=zjM 5 (zbj qm s k) k X;rw [hcut] at hsh;refine cmo hsh ?_;rintro e Z ⟨rfl,hbZ⟩;refine fin (T:=jA 5 (zbj qm s k) k) hbZ fun Y hb f=>out hb f ?_;unfold qW;rw [ek];simp only [Gw h10,hlo,hup,Kt,Gr,Gu]
 have hup:qm c=false:=hup;refine cmo (Tryz.strings_IndexByte (bs zdK) (c.toNat:Int) X) ?_;rintro e X' ⟨rfl,hx'⟩;have hx':=hx'.symm;subst hx';have ec:((c.toNat:Int).toNat.toUInt8)=c:=by rw [KL];exact UInt8.ofNat_toNat
 rw [ec];have em:=zpM zdK c;refine biE (fun hsg=>?_) fun hsg=>?_
 ·have hsg:c∈zdK:=dT (em.symm.trans hsg);have e:qW s k=⟨6,[c],k⟩:=by unfold qW;rw [ek];simp only [Gw h10,hlo,hup,Kt,Gr,Gx hsg]
  refine⟨(k+1:Nat),(zi (by omega)).trans ew.symm,k+1,rfl,hl,k,rfl,by omega,?_⟩;refine⟨qb ⟨6,[c],k⟩,by rw [hcut1];rfl,?_⟩;exact fin (T:=⟨6,[c],k⟩) (Gh _ _) fun Y hb f=>out hb f e.symm
 have hsg:c ∉ zdK:=dF (em.symm.trans hsg);refine⟨k,rfl,hkl,cmo (Tryz.strings_HasPrefix ((bs s).extract k (bs s).size) (bs [94,45,49]) X) ?_⟩;rintro e X' ⟨rfl,hx'⟩;have hx':=hx'.symm;subst hx';have ep:Lib.hasPrefix ((bs s).extract k (bs s).size).data.toList (bs [94,45,49]).data.toList=decide ((s.drop k).take 3=[94,45,49]):=by
  rw [<- zvz,zgo];show Lib.hasPrefix ((s.drop k).take (s.length-k)) _=_;rw [JE (by rw [Qu];omega)];rfl
 rw [ep];refine biE (fun hp=>?_) fun hp=>?_
 ·have hp:(s.drop k).take 3=[94,45,49]:=dT hp;refine⟨qb ⟨6,[94,45,49],k⟩,rfl,fin (T:=⟨6,[94,45,49],k⟩) (Gh _ _) fun Y hb f=>out hb f ?_⟩;unfold qW;rw [ek];simp only [Gw h10,hlo,hup,Kt,Gr,Gw hsg,Gx hp]
 ·have hp:¬ (s.drop k).take 3=[94,45,49]:=dF hp;refine⟨qb ⟨0,[],k⟩,rfl,fin (T:=⟨0,[],k⟩) (Gh _ _) fun Y hb f=>out hb f ?_⟩;unfold qW;rw [ek];simp only [Gw h10,hlo,hup,Kt,Gr,Gw hsg,Gw hp]
end
def zd (t:Trm) (p:OA) (cap:Nat):List Value:=[u8 t.kind,zn t.name,.slice p t.kids.length cap]
inductive KidsT (Q:Nat->Prop) (w:Wd):OA->List Trm->Prop
 | mk (p:OA) (kids:List Trm) (hn:kids.length<=140737488351232) (b o:Nat) (hp:kids.length=0\/p=some ⟨b,o,none⟩) (q:Nat->OA) (c:Nat->Nat)
   (hk:∀ i (h:i<kids.length),kids[i].name.length<=140737488351232/\Q b/\zo w ⟨b,o+i*3,none⟩ (zd kids[i] (q i) (c i)))
   (ht:∀ i (h:i<kids.length),KidsT Q w (q i) kids[i].kids):KidsT Q w p kids
section
variable {Q Q':Nat->Prop} {w w2:Wd} {p:OA} {kids:List Trm}
theorem KidsT.inv (h:KidsT Q w p kids):kids.length<=140737488351232/\∃ b o,(kids.length=0\/p=some ⟨b,o,none⟩) /\
  ∀ i (h:i<kids.length),∃ q c,kids[i].name.length<=140737488351232/\Q b/\zo w ⟨b,o+i*3,none⟩ (zd kids[i] q c)/\KidsT Q w q kids[i].kids:=by
 cases h with
 | mk _ _ hn b o hp q c hk ht=>exact⟨hn,b,o,hp,fun i hi=>⟨q i,c i,(hk i hi).1,(hk i hi).2.1,(hk i hi).2.2,ht i hi⟩⟩
theorem KidsT.by (hs:∀ (g:Nat) (cs:Array Value) (t:TypeId) (fr:Nat×Nat),Q g->w.heap[g]?=some (.cells cs t fr)->w2.heap[g]?=w.heap[g]?) (h:KidsT Q w p kids):KidsT Q w2 p kids:=by
 induction h with
 | mk p kids hn b o hp q c hk ht ih =>
  refine .mk p kids hn b o hp q c (fun i hi=>⟨(hk i hi).1,(hk i hi).2.1,?_⟩) ih;obtain⟨_,hB,hc⟩:=hk i hi;have h0:=hc 0 _ rfl;unfold World.cell? at h0
  split at h0
  ·rename_i cs t fr hb;exact zJ (hs b cs t fr hB hb) hc
  ·cases h0
theorem KidsT.kept (h:KidsT Q w p kids) (hb:Bw w w2):KidsT Q w2 p kids:=h.by fun g cs t fr _ hc=>hb.block g (hlt hc)
theorem KidsT.weak (h:KidsT Q w p kids) (hb:∀ b,Q b->Q' b):KidsT Q' w p kids:=by
 induction h with
 | mk p kids hn b o hp q c hk ht ih=>exact .mk p kids hn b o hp q c (fun i hi=>⟨(hk i hi).1,hb _ (hk i hi).2.1,(hk i hi).2.2⟩) ih
theorem KidsT.there (h:KidsT Q w p kids):KidsT (fun b=>Q b/\b<w.heap.size) w p kids:=by
 induction h with
 | mk p kids hn b o hp q c hk ht ih =>
  refine .mk p kids hn b o hp q c (fun i hi=>⟨(hk i hi).1,⟨(hk i hi).2.1,?_⟩,(hk i hi).2.2⟩) ih;have h0:=(hk i hi).2.2 0 _ rfl;unfold World.cell? at h0
  split at h0
  ·rename_i hb;exact hlt hb
  ·cases h0
theorem KidsT.nil:KidsT Q w p [] := .mk p [] (by decide) 0 0 (.inl rfl) (fun _=>none) (fun _=>0) (fun i hi=>by simp at hi) (fun i hi=>by simp at hi)
end
def zeL (f:Bs->Bool):Bs->Option Value:=fun t=>if f t then some (.bool true) else none
def zbC (s:Bs) (l c:Nat) (st:PS):List Value:=[zn s,u8n st.tok.kind,zn st.tok.text,i64 (st.tok.at_:Nat),.map (some l),.map (some c),i64 (st.nodes:Nat),i64 (st.deep:Nat),i64 st.e]
structure ParB (g l c:Nat) (s:Bs) (st:PS) (w:Wd):Prop where
 f:w.heap[g]?=some (.cells (zbC s l c st).toArray 136 (0,0))
 lm:MapF zbq w l (zeL st.lets)
 cm:MapF zbq w c (zeL st.checks)
 ord:3<l/\l<c/\c<g
 glob:GlobK w
 len:s.length<=8192
 pos:st.tok.at_+st.tok.text.length<=s.length
 nod:st.nodes<=400
 dep:st.deep<=50
theorem jX {κ:Type} [DecidableEq κ] {key:κ->Value} {w:Wd} {r:Nat} {f:κ->Option Value} (h:MapF key w r f):r<w.heap.size:=by
 obtain⟨_,_,h,_⟩:=h;exact hlt h
theorem zjx {T:TypeId} {v:Value} (h:(Tryz.prog.info? T).bind (fun i=>i.zero)=some v) (w:Wd):(zeroValue T).run PG w = .ok v w:=by
 cases hi:Tryz.prog.info? T with
 | none=>rw [hi] at h;cases h
 | some inf =>
  rw [hi] at h;have h:inf.zero=some v:=h;simp [zeroValue,typeInfo,hi,h]
section
variable {g l c:Nat} {s:Bs} {st st':PS} {w w2:Wd}
theorem ParB.lt (h:ParB g l c s st w):g<w.heap.size:=hlt h.f
theorem GlobK.grown (h:GlobK w) (hg:3<g) (hb:w.grownBy w2 (some g)):GlobK w2:=by
 have sm:∀ j,j<=3->w2.heap[j]?=w.heap[j]?:=fun j hj=>hb.block j (by have:=h.lt;omega) (by simp;omega);exact⟨zJ (sm _ (by decide)) h.op,zJ (sm _ (by decide)) h.st,zJ (sm _ (by decide)) h.sg,zJ (sm _ (by decide)) h.nd,nL h.lt hb.size⟩
theorem ParB.below (h:ParB g l c s st w) (hb:Bw w w2):ParB g l c s st w2 :=
 ⟨zb hb h.f,h.lm.below hb,h.cm.below hb,h.ord,h.glob.below hb,h.len,h.pos,h.nod,h.dep⟩
theorem ParB.put (h:ParB g l c s st w) (hb:w.grownBy w2 (some g)) (hf:w2.heap[g]?=some (.cells (zbC s l c st').toArray 136 (0,0))) (e1:st'.lets=st.lets) (e2:st'.checks=st.checks)
  (hp:st'.tok.at_+st'.tok.text.length<=s.length) (hn:st'.nodes<=400) (hd:st'.deep<=50):ParB g l c s st' w2:=by
 have o:=h.ord;refine⟨hf,?_,?_,o,h.glob.grown (by omega) hb,h.len,hp,hn,hd⟩
 ·rw [e1];exact h.lm.same (hb.block l (jX h.lm) (by simp;omega))
 ·rw [e2];exact h.cm.same (hb.block c (jX h.cm) (by simp;omega))
theorem ParB.tok (h:ParB g l c s st w) {t:Tk} (ht:t.at_+t.text.length<=s.length) {K:Wd->Prop} (k:∀ Y,ParB g l c s { st with tok:=t } Y->w.grownBy Y (some g)->K Y) :
  SatR ((storeVar 134 ⟨g,1,none⟩ (.agg (qb t).toArray)).run PG w) fun _ w'=>K w' :=
 jj ztl h.f (o:=1) (v := .agg (qb t).toArray) rfl (by show 1+3<=9;decide) rfl fun Y fY gY _=>k Y (h.put gY fY rfl rfl ht h.nod h.dep) gY
theorem ParB.nodes (h:ParB g l c s st w) {n:Nat} (hn:n<=400) {K:Wd->Prop} (k:∀ Y,ParB g l c s { st with nodes:=n } Y->w.grownBy Y (some g)->K Y) :
  SatR ((storeVar 3 ⟨g,6,none⟩ (i64 (n:Nat))).run PG w) fun _ w'=>K w' :=
 zu k3 h.f (o:=6) (v:=i64 (n:Nat)) rfl rfl (by show 6<9;decide) rfl fun Y fY gY _=>k Y (h.put gY fY rfl rfl h.pos hn h.dep) gY
theorem ParB.deep (h:ParB g l c s st w) {n:Nat} (hn:n<=50) {K:Wd->Prop} (k:∀ Y,ParB g l c s { st with deep:=n } Y->w.grownBy Y (some g)->K Y) :
  SatR ((storeVar 3 ⟨g,7,none⟩ (i64 (n:Nat))).run PG w) fun _ w'=>K w' :=
 zu k3 h.f (o:=7) (v:=i64 (n:Nat)) rfl rfl (by show 7<9;decide) rfl fun Y fY gY _=>k Y (h.put gY fY rfl rfl h.pos h.nod hn) gY
theorem ParB.err (h:ParB g l c s st w) {n:Int} {K:Wd->Prop} (k:∀ Y,ParB g l c s { st with e:=n } Y->w.grownBy Y (some g)->K Y) :
  SatR ((storeVar 42 ⟨g,8,none⟩ (i64 n)).run PG w) fun _ w'=>K w' :=
 zu k42 h.f (o:=8) (v:=i64 n) rfl rfl (by show 8<9;decide) rfl fun Y fY gY _=>k Y (h.put gY fY rfl rfl h.pos h.nod h.dep) gY
abbrev nx (s:Bs) (st:PS):PS:=zN (zr s) st
theorem zbp (h:ParB g l c s st w):Calls PG 66 #[At0 g] w fun e w'=>e = .returned (jI [])/\ParB g l c s (nx s st) w'/\w.grownBy w' (some g):=by
 refine zD 22 [At0 g] Tryz.func66 ?_;refine DrawE.ord [20] [0,1,2,3,4,5,6,7,8,9,10,11,12,13,14,15,16,17,18,19,20] (by kernel_rfl) ?_;have h1:ParB g l c s st w.drew:=h.below (Gh _ w).drew;have hl:=h.len;have hp:=h.pos;refine⟨_,zc (za h1.f) (i:=0) rfl,_,zc (za h1.f) (i:=3) rfl,_,zc (za h1.f) (i:=2) rfl,((st.tok.at_+st.tok.text.length:Nat):Int),(zi (a:=(st.tok.at_:Int)+(st.tok.text.length:Int)) (by omega)).trans (by omega),cmo (zqY (s:=s) (a:=st.tok.at_+st.tok.text.length) h1.glob hp (by omega)) ?_⟩;rintro e X ⟨rfl,hbX⟩;refine⟨hbX,?_⟩;have hX:=h1.below hbX;exact hX.tok (zoY hp) fun Y hY gY=>⟨rfl,hY,zg (zh ((Gh _ w).drew.trans hbX)) gY⟩
theorem js (h:ParB g l c s st w) (n:Int):Calls PG 107 #[At0 g,i64 n] w fun e w'=>e = .returned (.bool false)/\ParB g l c s (zam n st) w'/\w.grownBy w' (some g):=by
 refine zD 9 [At0 g,i64 n] Tryz.func107 ?_;exact h.err fun Y hY gY=>⟨rfl,hY,gY⟩
theorem zP {a b:Nat}:decide ((a:Int)=(b:Int))=decide (a=b):=by rw [QH];omega
theorem zrs (h:ParB g l c s st w) (t:Bs):Calls PG 206 #[At0 g,zn t] w fun e w'=>e = .returned (.bool (isP st t))/\w=w':=by
 refine zD 20 [At0 g,zn t] Tryz.func206 ?_;unfold isP;refine⟨_,zc (za h.f) (i:=1) rfl,biE (fun h1=>?_) fun h1=>?_⟩
 ·have h1:decide (st.tok.kind=6)=true:=(zP (b:=6)).symm.trans h1;exact⟨_,zc (za h.f) (i:=2) rfl,_,fun w=>zE _ _ st.tok.text t w,rb (by rw [h1];rfl),rfl⟩
 ·have h1:decide (st.tok.kind=6)=false:=(zP (b:=6)).symm.trans h1;exact⟨rb (by rw [h1];rfl),rfl⟩
theorem zcp (h:ParB g l c s st w) (k:Nat) (t:Bs):Calls PG 110 #[At0 g,u8n k,zn t] w fun e w'=>e = .returned (.bool (zY (zr s) k t st).1)/\ParB g l c s (zY (zr s) k t st).2 w'/\w.grownBy w' (some g):=by
 refine zD 27 [At0 g,u8n k,zn t] Tryz.func110 ?_;refine⟨_,zc (za h.f) (i:=1) rfl,?_⟩;have bad:(st.tok.kind≠k\/st.tok.text≠t)->Calls PG 107 #[At0 g,i64 110] w fun e w'=>e = .returned (.bool (zY (zr s) k t st).1)/\ParB g l c s (zY (zr s) k t st).2 w'/\w.grownBy w' (some g):=fun hb=>by
  have e:zY (zr s) k t st=(false,zam 110 st):=by unfold zY;rw [Gx hb]
  rw [e];exact js h 110
 refine biE (fun h1=>?_) fun h1=>?_
 ·have h1:(!decide ((st.tok.kind:Int)=(k:Int)))=true:=h1;rw [zP] at h1;refine brT (cmo (bad (.inl (by simpa using h1))) ?_);rintro e Y ⟨rfl,hY,gY⟩;exact⟨rfl,hY,gY⟩
 have h1:(!decide ((st.tok.kind:Int)=(k:Int)))=false:=h1;rw [zP] at h1;have h1:st.tok.kind=k:=by simpa using h1
 refine⟨_,zc (za h.f) (i:=2) rfl,_,fun w=>zdu _ _ st.tok.text t w,biE (fun h2=>?_) fun h2=>?_⟩
 ·have h2:(!decide (st.tok.text=t))=true:=h2;refine cmo (bad (.inr (by simpa using h2))) ?_;rintro e Y ⟨rfl,hY,gY⟩;exact⟨rfl,hY,gY⟩
 ·have h2:(!decide (st.tok.text=t))=false:=h2;have h2:st.tok.text=t:=by simpa using h2
  have e:zY (zr s) k t st=(true,nx s st):=by unfold zY;rw [Gw (by rintro (h | h);exact h h1;exact h h2)]
  rw [e];refine cmo (zbp h) ?_;rintro e Y ⟨rfl,hY,gY⟩;exact⟨rfl,hY,gY⟩
theorem zgS (h:ParB g l c s st w):Calls PG 164 #[At0 g] w fun e w'=>e = .returned (.bool (jf (zr s) st).1)/\ParB g l c s (jf (zr s) st).2 w'/\w.grownBy w' (some g):=by
 refine zD 19 [At0 g] Tryz.func164 ?_;have hn:=h.nod;refine⟨_,zc (za h.f) (i:=6) rfl,biE (fun h1=>?_) fun h1=>?_⟩
 ·have h1:(400:Int)<=(st.nodes:Int):=dT h1;have e:jf (zr s) st=(false,zam 5 st):=by unfold jf;rw [Gx (by omega)]
  rw [e];refine cmo (js h 5) ?_;rintro e Y ⟨rfl,hY,gY⟩;exact⟨rfl,hY,gY⟩
 ·have h1:¬ (400:Int)<=(st.nodes:Int):=dF h1;have e:jf (zr s) st=(true,nx s { st with nodes:=st.nodes+1 }):=by unfold jf;rw [Gw (by omega)]
  rw [e];refine⟨_,zc (za h.f) (i:=6) rfl,((st.nodes+1:Nat):Int),(zi (by omega)).trans (by omega),h.nodes (n:=st.nodes+1) (by omega) fun Y hY gY=>cmo (zbp hY) ?_⟩;rintro e Z ⟨rfl,hZ,gZ⟩;exact⟨rfl,hZ,zg gY gZ⟩
theorem zdb {w:Wd} {r:Nat} {f:Bs->Bool} (h:MapF zbq w r (zeL f)) (t:Bs):(Instr.lookup 105 (.map (some r)) (zn t) false).run PG w = .ok (.bool (f t)) w:=by
 have:=zgZ zjL Tryz.underlying105 (z := .bool false) (zjx (by kernel_rfl)) h t false;refine this.trans ?_;unfold zeL
 cases f t <;> rfl
end
theorem zjz {n:Nat} (h:n<=255):IntKind.u8.wrap (n:Int)=(n:Int):=by
 unfold IntKind.wrap;simp only [IntKind.bits,IntKind.signed,Ul,Kt,Gr];omega
section
variable {g l c pb:Nat} {s:Bs} {st:PS} {w:Wd}
theorem zqO (h:ParB g l c s st w) (hp:w.heap[pb]?=some (.cells #[At0 g] 132 (0,0))) (t:Bs):Calls PG 109 #[zn t,At0 pb] w fun e w'=>e = .returned (.bool (jH t||st.lets t))/\w=w':=by
 refine zD 14 [zn t,At0 pb] Tryz.func109 ?_;refine cmo (zgj t w) ?_;rintro e _ ⟨rfl,rfl⟩;refine biE (fun h1=>?_) fun h1=>?_
 ·have h1:jH t=true:=h1;exact⟨rb (by rw [h1];rfl),rfl⟩
 ·have h1:jH t=false:=h1;rw [h1];exact⟨_,zc (za hp) (i:=0) rfl,_,zc (za h.f) (i:=4) rfl,_,fun w2 hb=>zdb (h.lm.below hb) t,rfl,rfl⟩
theorem zqN (h:ParB g l c s st w) (hp:w.heap[pb]?=some (.cells #[At0 g] 132 (0,0))) (t:Bs):Calls PG 112 #[zn t,At0 pb] w fun e w'=>e = .returned (.bool (st.checks t))/\w=w':=by
 refine zD 10 [zn t,At0 pb] Tryz.func112 ?_;exact⟨_,zc (za hp) (i:=0) rfl,_,zc (za h.f) (i:=5) rfl,_,fun w2 hb=>zdb (h.cm.below hb) t,rfl,rfl⟩
theorem zlF (h:ParB g l c s st w) (hp:w.heap[pb]?=some (.cells #[At0 g] 132 (0,0))):Calls PG 108 #[At0 g,.func (.func 109) #[] #[At0 pb]] w fun e w'=>e = .returned (.tuple #[zn ((q9 (zr s) (fun t=>jH t||st.lets t) st).1.getD []),.bool (q9 (zr s) (fun t=>jH t||st.lets t) st).1.isSome])/\ParB g l c s (q9 (zr s) (fun t=>jH t||st.lets t) st).2 w'/\w.grownBy w' (some g):=by
 refine zD 28 [At0 g,.func (.func 109) #[] #[At0 pb]] Tryz.func108 ?_;refine⟨_,zc (za h.f) (i:=2) rfl,_,zc (za h.f) (i:=1) rfl,biE (fun h1=>?_) fun h1=>?_⟩
 ·have h1:(!decide ((st.tok.kind:Int)=((4:Nat):Int)))=true:=h1;rw [zP] at h1;have h1:st.tok.kind≠4:=by simpa using h1
  have e:q9 (zr s) (fun t=>jH t||st.lets t) st=(none,zam 110 st):=by unfold q9;rw [Gx h1]
  rw [e];refine cmo (js h 110) ?_;rintro e Y ⟨rfl,hY,gY⟩;exact⟨rfl,hY,gY⟩
 have h1:(!decide ((st.tok.kind:Int)=((4:Nat):Int)))=false:=h1;rw [zP] at h1;have h1:st.tok.kind=4:=by simpa using h1
 refine cmo (zqO h hp st.tok.text) ?_;rintro e _ ⟨rfl,rfl⟩;refine biE (fun h2=>?_) fun h2=>?_
 ·have h2:((fun t=>jH t||st.lets t) st.tok.text)=true:=h2;have e:q9 (zr s) (fun t=>jH t||st.lets t) st=(none,zam 111 st):=by unfold q9;rw [Gw (by rw [h1];decide),Gx h2]
  rw [e];refine cmo (js h 111) ?_;rintro e Y ⟨rfl,hY,gY⟩;exact⟨rfl,hY,gY⟩
 ·have h2:((fun t=>jH t||st.lets t) st.tok.text)=false:=h2;have e:q9 (zr s) (fun t=>jH t||st.lets t) st=(some st.tok.text,nx s st):=by unfold q9;rw [Gw (by rw [h1];decide),Gw (by rw [h2];exact Ku)]
  rw [e];refine cmo (zbp h) ?_;rintro e Y ⟨rfl,hY,gY⟩;exact⟨rfl,hY,gY⟩
theorem zlE (h:ParB g l c s st w) (hp:w.heap[pb]?=some (.cells #[At0 g] 132 (0,0))):Calls PG 108 #[At0 g,.func (.func 112) #[] #[At0 pb]] w fun e w'=>e = .returned (.tuple #[zn ((q9 (zr s) st.checks st).1.getD []),.bool (q9 (zr s) st.checks st).1.isSome])/\ParB g l c s (q9 (zr s) st.checks st).2 w'/\w.grownBy w' (some g):=by
 refine zD 28 [At0 g,.func (.func 112) #[] #[At0 pb]] Tryz.func108 ?_;refine⟨_,zc (za h.f) (i:=2) rfl,_,zc (za h.f) (i:=1) rfl,biE (fun h1=>?_) fun h1=>?_⟩
 ·have h1:(!decide ((st.tok.kind:Int)=((4:Nat):Int)))=true:=h1;rw [zP] at h1;have h1:st.tok.kind≠4:=by simpa using h1
  have e:q9 (zr s) st.checks st=(none,zam 110 st):=by unfold q9;rw [Gx h1]
  rw [e];refine cmo (js h 110) ?_;rintro e Y ⟨rfl,hY,gY⟩;exact⟨rfl,hY,gY⟩
 have h1:(!decide ((st.tok.kind:Int)=((4:Nat):Int)))=false:=h1;rw [zP] at h1;have h1:st.tok.kind=4:=by simpa using h1
 refine cmo (zqN h hp st.tok.text) ?_;rintro e _ ⟨rfl,rfl⟩;refine biE (fun h2=>?_) fun h2=>?_
 ·have h2:(st.checks st.tok.text)=true:=h2;have e:q9 (zr s) st.checks st=(none,zam 111 st):=by unfold q9;rw [Gw (by rw [h1];decide),Gx h2]
  rw [e];refine cmo (js h 111) ?_;rintro e Y ⟨rfl,hY,gY⟩;exact⟨rfl,hY,gY⟩
 ·have h2:(st.checks st.tok.text)=false:=h2;have e:q9 (zr s) st.checks st=(some st.tok.text,nx s st):=by unfold q9;rw [Gw (by rw [h1];decide),Gw (by rw [h2];exact Ku)]
  rw [e];refine cmo (zbp h) ?_;rintro e Y ⟨rfl,hY,gY⟩;exact⟨rfl,hY,gY⟩
theorem za1 (hg:GlobK w) {k:Nat} (hk:k<10):w.cell? ⟨1,0+k,none⟩=some (i64 (zbw.getD k 0:Nat)):=by
 refine zc hg.st ?_;have hk:k<zbw.length:=hk;rw [KU,gE hk,gDe,gE hk];rfl
theorem zf7 (hg:GlobK w) {k:Nat} (hk:k<10):w.cell? ⟨2,0+k,none⟩=some (zn (jz.getD k [])):=by
 refine zc hg.sg ?_;have hk:k<jz.length:=hk;rw [KU,gE hk,gDe,gE hk];rfl
def zvM (st:PS) (k:Nat):Prop:=(2<k->isP st [124]=false)/\(3<k->isP st [38]=false)/\(4<k->isP st [92]=false)/\(5<k->isP st [59]=false)
theorem zlx (h:ParB g l c s st w):Calls PG 163 #[At0 g] w fun e w'=>e = .returned (u8n (zX st))/\w=w':=by
 refine zD 22 [At0 g] Tryz.func163 ?_;have hg:=h.glob;have hlt:=hg.lt;refine⟨zbw.map (fun n=>i64 (n:Nat)),rfl,hg.st,nL (by decide) (Nat.succ_le_of_lt hg.lt),?_⟩;refine⟨Nat,fun k=>⟨[(0,At0 g),(5,.agg (zbw.map (fun n=>i64 (n:Nat))).toArray),(6,.int .i64 (k:Nat))],[]⟩,fun k V=>k<=10/\zvM st k/\w=V,fun k=>10-k,0,
  (cvE rfl rfl),⟨Ge _,⟨fun h=>Gy h (by decide),fun h=>Gy h (by decide),fun h=>Gy h (by decide),fun h=>Gy h (by decide)⟩,rfl⟩,?_⟩
 rintro k _ ⟨hk,hno,rfl⟩;refine biE (fun h1=>?_) fun h1=>?_
 ·have h1:(k:Int)<10:=dT h1;have hkl:k<zbw.length:=by show k<10;omega
  refine⟨k,rfl,by omega,?_⟩;have hget:(zbw.map fun n=>i64 (n:Nat))[k*1]?=some (i64 (zbw.getD k 0:Nat)):=by
   rw [Gd,KU,gE hkl,gDe,gE hkl];rfl
  refine za5 hget (biE (fun h2=>?_) fun h2=>?_)
  ·have h2:(0:Int)<((zbw.getD k 0:Nat):Int):=dT h2;refine⟨k,rfl,by omega,?_⟩;refine⟨_,by rw [Gd];exact zf7 hg (by omega),cmo (zrs h (jz.getD k [])) ?_⟩;rintro e _ ⟨rfl,rfl⟩;obtain⟨n2,n3,n4,n5⟩:=hno;have cases5:k=2\/k=3\/k=4\/k=5:=by
    have:∀ j:Fin 10,0<zbw.getD j.1 0->j.1=2\/j.1=3\/j.1=4\/j.1=5:=(by decide);exact this ⟨k,by omega⟩ (by show 0<zbw.getD k 0;omega)
   refine biE (fun h3=>?_) fun h3=>?_
   ·have h3:isP st (jz.getD k [])=true:=h3;refine⟨(k:Int),zjz (by omega),?_,rfl⟩;have e:zX st=k:=by
     unfold zX;rcases cases5 with rfl | rfl | rfl | rfl
     ·rw [Gx (show isP st [124]=true from h3)]
     ·rw [Gw (by rw [n2 (by decide)];decide),Gx (show isP st [38]=true from h3)]
     ·rw [Gw (by rw [n2 (by decide)];decide),Gw (by rw [n3 (by decide)];decide),Gx (show isP st [92]=true from h3)]
     ·rw [Gw (by rw [n2 (by decide)];decide),Gw (by rw [n3 (by decide)];decide),Gw (by rw [n4 (by decide)];decide),Gx (show isP st [59]=true from h3)]
    rw [e];rfl
   ·have h3:isP st (jz.getD k [])=false:=h3;refine nxI (by omega) ⟨k+1,(cvE rfl rfl),⟨by omega,?_,rfl⟩,by dsimp only;omega⟩;refine⟨fun h=>?_,fun h=>?_,fun h=>?_,fun h=>?_⟩
    ·rcases cases5 with rfl | rfl | rfl | rfl
     ·exact h3
     all_goals exact n2 (by decide)
    ·rcases cases5 with rfl | rfl | rfl | rfl
     ·exact Gy h (by decide)
     ·exact h3
     all_goals exact n3 (by decide)
    ·rcases cases5 with rfl | rfl | rfl | rfl
     ·exact Gy h (by decide)
     ·exact Gy h (by decide)
     ·exact h3
     ·exact n4 (by decide)
    ·rcases cases5 with rfl | rfl | rfl | rfl
     ·exact Gy h (by decide)
     ·exact Gy h (by decide)
     ·exact Gy h (by decide)
     ·exact h3
  ·have h2:¬ (0:Int)<((zbw.getD k 0:Nat):Int):=dF h2;refine brF (nxI (by omega) ⟨k+1,(cvE rfl rfl),⟨by omega,?_,rfl⟩,by dsimp only;omega⟩);have no5:k≠2/\k≠3/\k≠4/\k≠5:=by
    have:∀ j:Fin 10,¬ 0<zbw.getD j.1 0->j.1≠2/\j.1≠3/\j.1≠4/\j.1≠5:=(by decide);exact this ⟨k,by omega⟩ (by show ¬ 0<zbw.getD k 0;omega)
   obtain⟨n2,n3,n4,n5⟩:=hno;exact⟨fun h=>n2 (by omega),fun h=>n3 (by omega),fun h=>n4 (by omega),fun h=>n5 (by omega)⟩
 ·have h1:¬ (k:Int)<10:=dF h1;obtain⟨n2,n3,n4,n5⟩:=hno;refine⟨?_,rfl⟩;have e:zX st=0:=by
   unfold zX;rw [Gw (by rw [n2 (by omega)];decide),Gw (by rw [n3 (by omega)];decide),Gw (by rw [n4 (by omega)];decide),Gw (by rw [n5 (by omega)];decide)]
  rw [e];rfl
end
end Go.Proofs.YtnadlhpkpnfmbaaGreatDoor
namespace Go.Proofs.YtnadlhpkpnfmbaaGreatDoor
open Go.Vc
def GdT (k:Nat) (t:Tk):Prop:=t.at_<=k/\t.kind≠1/\(t.kind≠0->t.at_+t.text.length<=k)
def Sm {α:Type} (m:Nat) (st:PS) (r r':α×PS):Prop:=st.tok.at_<=r.2.tok.at_/\(r.2.tok.at_<=m->r'=r)
section
variable {sc sc':Nat->Tk} {m:Nat}
theorem Sm.same {α:Type} {st:PS} {r:α×PS} (h:r.2.tok=st.tok):Sm m st r r:=⟨by rw [h];exact Gc _,fun _=>rfl⟩
theorem Sm.eq {α:Type} {st st1:PS} {a:α} {r r':α×PS} (h:Sm m st r r') (e:r=(a,st1)):st.tok.at_<=st1.tok.at_/\(st1.tok.at_<=m->r'=(a,st1)):=by
 subst e;exact h
variable (Mo:∀ a,a<=(sc a).at_) (Sa:∀ a,(sc a).at_<=m->sc' a=sc a)
include Mo Sa
end
section
variable {p:UInt8->Bool}
theorem zli (s:Bs) (a:Nat):a<=qJ p s a:=Qy _ _
end
theorem zqV (s:Bs) (a:Nat):a<=zbL s a:=by
 unfold zbL
 split
 ·exact UT (zli (p:=zW) s a) (zli s _)
 ·exact zli s a
theorem zoS (k:Nat) (t:Bs) (a:Nat):(jA k t a).at_=a:=by unfold jA;split <;> rfl
theorem zoG (s:Bs) (a:Nat):(qW s a).at_=a:=by
 unfold qW
 split
 ·rfl
 ·repeat' split
  all_goals first | rfl | exact zoS _ _ _
theorem znv (s:Bs) (a:Nat):a<=(zr s a).at_:=by
 unfold zr;rw [zoG];exact zqV s a
def wordB (c:UInt8):Bool:=jq c||qm c||(decide (48<=c.toNat)&&decide (c.toNat<=57))||decide (c=45)||decide (c=94)
section
variable {s:Bs}
def MoS (s:Bs) (a b:PS):Prop:=a.tok.at_<=b.tok.at_/\b.deep=a.deep/\(b.tok=a.tok\/∃ i,b.tok=zr s i)
theorem MoS.refl (a:PS):MoS s a a:=⟨Gc _,rfl,.inl rfl⟩
theorem MoS.trans {a b c:PS} (h:MoS s a b) (k:MoS s b c):MoS s a c:=⟨UT h.1 k.1,k.2.1.trans h.2.1,by
 rcases k.2.2 with e | e
 ·rw [e];exact h.2.2
 ·exact .inr e⟩
theorem zii (s:Bs) (st:PS):st.tok.at_+st.tok.text.length<=(zN (zr s) st).tok.at_:=znv s _
theorem zdw (st:PS):MoS s st (zN (zr s) st):=⟨UT (Qy _ _) (zii s st),rfl,.inr ⟨_,rfl⟩⟩
theorem zgg (st:PS):MoS s st (jf (zr s) st).2:=by
 unfold jf
 split
 ·exact .refl _
 ·exact zdw { st with nodes:=st.nodes+1 }
theorem zaU (k:Nat) (t:Bs) (st:PS):MoS s st (zY (zr s) k t st).2:=by
 unfold zY
 split
 ·exact .refl _
 ·exact zdw st
theorem zaZ:∀ f,(∀ least st,MoS s st (termP (zr s) f least st).2)/\(∀ least t st,MoS s st (moreP (zr s) f least t st).2) /\
  (∀ st,MoS s st (tightP (zr s) f st).2)/\(∀ t st,MoS s st (postsP (zr s) f t st).2)/\(∀ st,MoS s st (simpleP (zr s) f st).2)
 | 0=>by
  refine⟨?_,?_,?_,?_,?_⟩ <;> intros <;> simp only [termP,moreP,tightP,postsP,simpleP] <;> exact .refl _
 | f+1=>by
  obtain⟨h1,h2,h3,h4,h5⟩:=zaZ f;refine⟨fun least st=>?_,fun least t st=>?_,fun st=>?_,fun t st=>?_,fun st=>?_⟩
  ·rw [termP];have:=h3 st
   split <;> rename_i e <;> rw [e] at this
   ·exact this
   ·exact this.trans (h2 _ _ _)
  ·rw [moreP]
   split
   ·exact .refl _
   ·have hn:=zgg (s:=s) st
    split <;> rename_i e <;> rw [e] at hn
    ·exact hn
    ·have:=h1 (zX st) ‹PS›
     split <;> rename_i e2 <;> rw [e2] at this
     ·exact hn.trans this
     ·exact hn.trans (this.trans (h2 _ _ _))
  ·rw [tightP];have:=h5 st
   split <;> rename_i e <;> rw [e] at this
   ·exact this
   ·exact this.trans (h4 _ _)
  ·rw [postsP]
   split
   ·exact .refl _
   ·have hn:=zgg (s:=s) st
    split <;> rename_i e <;> rw [e] at hn
    ·exact hn
    ·exact hn.trans (h4 _ _)
  ·rw [simpleP]
   split
   ·split
    ·exact .refl _
    ·have hn:=zgg (s:=s) st
     split <;> rename_i e <;> rw [e] at hn <;> exact hn
   ·split
    ·have hn:=zgg (s:=s) st
     split <;> rename_i e <;> rw [e] at hn
     ·exact hn
     ·split
      ·exact hn
      ·split
       ·exact hn
       ·rename_i st2 _ _;have hx:=zaU (s:=s) 6 [93] (zN (zr s) st2);have hm:=hn.trans (zdw (s:=s) st2)
        split <;> rename_i e2 <;> rw [e2] at hx <;> exact hm.trans hx
    ·split
     ·have ha:=zdw (s:=s) { st with deep:=st.deep+1 };have hn:=h1 1 (zN (zr s) { st with deep:=st.deep+1 })
      split <;> rename_i st2 e <;> rw [e] at hn
      ·exact⟨UT ha.1 hn.1,by show st2.deep-1=st.deep;have e1:st2.deep=st.deep+1:=hn.2.1.trans ha.2.1;omega,(ha.trans hn).2.2⟩
      ·have hx:=zaU (s:=s) 6 [41] { st2 with deep:=st2.deep-1 };have hm:MoS s st { st2 with deep:=st2.deep-1 }:=⟨UT ha.1 hn.1,by show st2.deep-1=st.deep;have e1:st2.deep=st.deep+1:=hn.2.1.trans ha.2.1;omega,(ha.trans hn).2.2⟩
       split <;> rename_i e2 <;> rw [e2] at hx <;> exact hm.trans hx
     ·exact .refl _
theorem zeJ (used:Bs->Bool) (st:PS):MoS s st (q9 (zr s) used st).2:=by
 unfold q9
 split
 ·exact .refl _
 ·split
  ·exact .refl _
  ·exact zdw st
theorem zja (l:LineD) (st:PS):MoS s st (zhQ l st).2:=by
 unfold zhQ
 split <;> exact .refl _
theorem zi9 {a b:PS} (h:MoS s a b) {f:Bs->Bool}:MoS s a { b with lets:=f }:=h
theorem zfq {a b:PS} (h:MoS s a b) {f:Bs->Bool}:MoS s a { b with checks:=f }:=h
theorem zmO (f many:Nat) (st:PS):MoS s st (zak (zr s) f many st).2:=by
 unfold zak
 split
 ·exact .refl _
 ·split
  ·exact .refl _
  ·have h0:=zdw (s:=s) st
   split
   ·have h1:=zeJ (s:=s) (fun t=>jH t||st.lets t) (zN (zr s) st)
    split <;> rename_i e <;> rw [e] at h1
    ·exact h0.trans h1
    ·rename_i nq st2;have h2:=zaU (s:=s) 6 [61] st2;have h01:=h0.trans h1
     split <;> rename_i e2 <;> rw [e2] at h2
     ·exact h01.trans h2
     ·rename_i st3;have h3:=(zaZ (s:=s) f).1 1 st3;have h02:=h01.trans h2
      split <;> rename_i e3 <;> rw [e3] at h3
      ·exact zi9 (h02.trans h3)
      ·exact (zi9 (h02.trans h3)).trans (zja _ _)
   ·have h1:=(zaZ (s:=s) f).1 1 (zN (zr s) st)
    split <;> rename_i e <;> rw [e] at h1
    ·exact h0.trans h1
    ·rename_i t st2;have h2:=zaU (s:=s) 3 [97,115] st2;have h01:=h0.trans h1
     split <;> rename_i e2 <;> rw [e2] at h2
     ·exact h01.trans h2
     ·rename_i st3;have h3:=zeJ (s:=s) st3.checks st3;have h02:=h01.trans h2
      split <;> rename_i e3 <;> rw [e3] at h3
      ·exact zfq (h02.trans h3)
      ·exact (zfq (h02.trans h3)).trans (zja _ _)
theorem zmR {f many:Nat} {st st2:PS} {x:LineD} (h:zak (zr s) f many st=(some x,st2)):st.tok.at_+1<=st2.tok.at_:=by
 have ht:1<=st.tok.text.length:=by
  unfold zak at h
  split at h
  ·cases h
  ·rename_i hc;have hl:zaK st.tok.text<4:=by
    refine Jn fun hn=>hc (.inr ?_);omega
   cases ht:st.tok.text with
   | nil=>rw [ht] at hl;exact Gy hl (by decide)
   | cons a r=>simp
 have hn:=zii s st;have key:(zN (zr s) st).tok.at_<=st2.tok.at_:=by
  have e2:st2=(zak (zr s) f many st).2:=by rw [h]
  rw [e2];unfold zak at h ⊢
  split at h
  ·cases h
  ·rename_i hc;rw [Gw hc]
   split at h
   ·cases h
   ·rename_i hc2;rw [Gw hc2]
    split at h
    ·rename_i hc3;rw [Gx hc3];have h1:=zeJ (s:=s) (fun t=>jH t||st.lets t) (zN (zr s) st)
     split <;> rename_i e <;> rw [e] at h1
     ·exact h1.1
     ·rename_i nq st2;have h2:=zaU (s:=s) 6 [61] st2
      split <;> rename_i e2 <;> rw [e2] at h2
      ·exact (h1.trans h2).1
      ·rename_i st3;have h3:=(zaZ (s:=s) f).1 1 st3
       split <;> rename_i e3 <;> rw [e3] at h3
       ·exact (h1.trans (h2.trans h3)).1
       ·exact ((zi9 (h1.trans (h2.trans h3))).trans (zja _ _)).1
    ·rename_i hc3;rw [Gw hc3];have h1:=(zaZ (s:=s) f).1 1 (zN (zr s) st)
     split <;> rename_i e <;> rw [e] at h1
     ·exact h1.1
     ·rename_i t st2;have h2:=zaU (s:=s) 3 [97,115] st2
      split <;> rename_i e2 <;> rw [e2] at h2
      ·exact (h1.trans h2).1
      ·rename_i st3;have h3:=zeJ (s:=s) st3.checks st3
       split <;> rename_i e3 <;> rw [e3] at h3
       ·exact (h1.trans (h2.trans h3)).1
       ·exact ((zfq (h1.trans (h2.trans h3))).trans (zja _ _)).1
 omega
theorem znX {sc:Nat->Tk} {f many:Nat} {st st2:PS} {x:LineD} (h:zak sc f many st=(some x,st2)):many<40:=by
 unfold zak at h
 split at h
 ·cases h
 ·split at h
  ·cases h
  ·omega
theorem zh4 {i:Nat} (h:(zr s i).kind=2):1<=(zr s i).text.length:=by
 unfold zr at h ⊢;unfold qW at h ⊢;have sh:∀ {k:Nat} {t:Bs} {a:Nat},k≠2->(jA k t a).kind≠2:=fun {k t a} hk=>by
  unfold jA;split
  ·exact fun h=>Gy h (by show (0:Nat)≠2;decide)
  ·exact hk
 split at h
 ·exact Gy h (by show (1:Nat)≠2;decide)
 ·rename_i c hc
  split at h
  ·rename_i h10;rw [Gx h10];exact Gc _
  ·split at h
   ·split at h
    ·exact Gy h (by show (3:Nat)≠2;decide)
    ·exact Gy h (sh (by decide))
   ·split at h
    ·exact Gy h (sh (by decide))
    ·split at h
     ·exact Gy h (by show (6:Nat)≠2;decide)
     ·split at h
      ·exact Gy h (by show (6:Nat)≠2;decide)
      ·exact Gy h (by show (0:Nat)≠2;decide)
end
end Go.Proofs.YtnadlhpkpnfmbaaGreatDoor
namespace Go.Proofs.YtnadlhpkpnfmbaaGreatDoor
open Go.Vc Go.RowKit Go.Sei
def zkZ (g l c:Nat) (s:Bs) (w:Wd) (r:Option Trm×PS) (e:Ending) (w':Wd):Prop :=
 ∃ (t:Trm) (q:OA) (cap:Nat),e = .returned (.tuple #[.agg (zd t q cap).toArray,.bool r.1.isSome]) /\
  (∀ x,r.1=some x->x=t/\t.name.length<=8192/\KidsT (fun b=>w.heap.size<=b) w' q t.kids)/\ParB g l c s r.2 w'/\w.grownBy w' (some g)
def zT:Trm := .mk 0 [] []
def zk1 (g l c:Nat) (s:Bs) (f:Nat):Prop:=∀ (least:Nat) (st:PS) (w:Wd),least<=5->ParB g l c s st w->4*(s.length-st.tok.at_)+3<=f ->
 Calls PG 111 #[At0 g,i64 (least:Nat)] w (zkZ g l c s w (termP (zr s) f least st))
section
variable {g l c:Nat} {s:Bs} {st:PS} {w w2 X:Wd}
theorem ParB.upto (h:ParB g l c s st w) (hb:Below (g+1) w w2):ParB g l c s st w2:=by
 have o:=h.ord;have sm:∀ {j},j<=g->w2.heap[j]?=w.heap[j]?:=fun {j} hj=>hb.block j (by omega);have hg:=h.glob;refine⟨(sm (Gc _)).trans h.f,h.lm.same (sm (by omega)),h.cm.same (sm (by omega)),o,⟨zJ (sm ?_) hg.op,zJ (sm ?_) hg.st,zJ (sm ?_) hg.sg,zJ (sm ?_) hg.nd,nL hg.lt hb.size⟩,h.len,h.pos,h.nod,h.dep⟩
 all_goals exact UT (by decide) (by omega:3<=g)
theorem zkB {Y:Wd} (h:w.grownBy X (some g)) (hb:Below w.heap.size X Y):w.grownBy Y (some g) :=
 ⟨hb.os.trans h.os,hb.tape.trans h.tape,hb.output.trans h.output,UT h.size hb.size,fun j hj hn=>(hb.block j hj).trans (h.block j hj hn)⟩
theorem zbr {t:Bs} (h:isP st t=true):st.tok.text.length=t.length:=by
 unfold isP at h;rw [bAT] at h;rw [dT h.2]
theorem zfb {r:Nat} {t:Trm} {q:OA} {cap:Nat} {cs:Array Value} (hr:w.heap.size<=r) (f:X.heap[r]?=some (.cells cs 24 (0,0))) (h3:cs.size=3) (hX:ParB g l c s st X) (gX:w.grownBy X (some g)) (hg:g<w.heap.size) {K:Wd->Prop}
  (k:∀ Y,ParB g l c s st Y->w.grownBy Y (some g)->Y.heap[r]?=some (.cells (zd t q cap).toArray 24 (0,0))->(∀ j,j≠r->Y.heap[j]?=X.heap[j]?)->Y.heap.size=X.heap.size->K Y) :
  SatR ((storeVar 24 ⟨r,0,none⟩ (.agg (zd t q cap).toArray)).run PG X) fun _ w'=>K w':=by
 exact zy (v := .agg (zd t q cap).toArray) k24 f rfl h3 rfl (k _ (hX.upto (zl (Gh _ X) (by omega) _)) (zkB gX (zl (Gh _ X) hr _)) (zq f) (fun j hj=>zt hj) (by simp))
structure SimB (w:Wd) (g l c:Nat) (s:Bs) (st:PS) (tb:Nat) (t:Trm) (q:OA) (cap:Nat) (Y:Wd):Prop where
 p:ParB g l c s st Y
 r:Y.heap[w.heap.size]?=some (.cells (zd zT none 0).toArray 24 (0,0))
 x:Y.heap[tb]?=some (.cells (zd t q cap).toArray 24 (0,0))
 o:w.grownBy Y (some g)
 lt:w.heap.size<tb
 g:g<w.heap.size
structure AnsB (w:Wd) (g l c:Nat) (s:Bs) (st:PS) (Y:Wd):Prop where
 p:ParB g l c s st Y
 r:Y.heap[w.heap.size]?=some (.cells (zd zT none 0).toArray 24 (0,0))
 o:w.grownBy Y (some g)
 g:g<w.heap.size
section
variable {tb:Nat} {t:Trm} {q:OA} {cap:Nat} {Y Z:Wd} {st':PS}
theorem SimB.ans (h:SimB w g l c s st tb t q cap Y):AnsB w g l c s st Y:=⟨h.p,h.r,h.o,h.g⟩
theorem AnsB.grown (h:AnsB w g l c s st Y) (hZ:ParB g l c s st' Z) (gZ:Y.grownBy Z (some g)):AnsB w g l c s st' Z :=
 ⟨hZ,(gZ.block _ (hlt h.r) (by have:=h.g;simp;omega)).trans h.r,zg h.o gZ,h.g⟩
theorem SimB.grown (h:SimB w g l c s st tb t q cap Y) (hZ:ParB g l c s st' Z) (gZ:Y.grownBy Z (some g)):SimB w g l c s st' tb t q cap Z :=
 ⟨hZ,(gZ.block _ (hlt h.r) (by have:=h.g;simp;omega)).trans h.r,(gZ.block _ (hlt h.x) (by have:=h.g;have:=h.lt;simp;omega)).trans h.x,zg h.o gZ,h.lt,h.g⟩
theorem SimB.drew (h:SimB w g l c s st tb t q cap Y):SimB w g l c s st tb t q cap Y.drew :=
 h.grown (h.p.below (Gh _ Y).drew) (zh (Gh _ Y).drew)
theorem AnsB.box (h:AnsB w g l c s st Y) {cs:Array Value} (h3:cs.size=3) {K:Wd->Prop} (k:∀ Z,SimB w g l c s st Y.heap.size t q cap Z->Bw Y Z->Z.heap.size=Y.heap.size+1->K Z) :
  SatR ((storeVar 24 ⟨Y.heap.size,0,none⟩ (.agg (zd t q cap).toArray)).run PG (Y.alloc (.cells cs 24))) fun _ w'=>K w' :=
 zk (X:=Y) (v := .agg (zd t q cap).toArray) k24 rfl h3 rfl fun Z hbZ fZ sZ =>
  k Z ⟨h.p.below hbZ,zb hbZ h.r,fZ,zg h.o (zh hbZ),hlt h.r,h.g⟩ hbZ sZ
theorem AnsB.fin (h:AnsB w g l c s st Y) {R:Option Trm×PS} {ok:Bool} (e1:R.1.isSome=ok) (e2:R.2=st) (e3:∀ x,R.1=some x->x=t/\t.name.length<=8192/\KidsT (fun b=>w.heap.size<b) Y q t.kids) :
  SatR ((storeVar 24 ⟨w.heap.size,0,none⟩ (.agg (zd t q cap).toArray)).run PG Y) fun _ w'=>∃ us:List Value,us.length=3/\zo w' ⟨w.heap.size,0,none⟩ us/\zkZ g l c s w R (.returned (jI [.agg us.toArray,.bool ok])) w':=by
 refine zfb (t:=t) (q:=q) (cap:=cap) (Gc _) h.r rfl h.p h.o h.g fun Z hZ gZ fZ oZ _=>⟨zd t q cap,rfl,za fZ,t,q,cap,by rw [e1];rfl,fun x hx=>?_,by rw [e2];exact hZ,gZ⟩;obtain⟨h1,h2,h3⟩:=e3 x hx;exact⟨h1,h2,(h3.by fun b cs ty fr hb hc=>oZ b (by omega)).weak fun b hb=>by omega⟩
theorem AnsB.none (h:AnsB w g l c s st Y) {R:Option Trm×PS} (hR:R=(none,st)) :
  SatR ((storeVar 24 ⟨w.heap.size,0,none⟩ (.agg (zd t q cap).toArray)).run PG Y) fun _ w'=>∃ us:List Value,us.length=3/\zo w' ⟨w.heap.size,0,none⟩ us/\zkZ g l c s w R (.returned (jI [.agg us.toArray,.bool false])) w' :=
 h.fin (by rw [hR];rfl) (by rw [hR]) (fun x hx=>by rw [hR] at hx;cases hx)
theorem AnsB.leaf {b:Bool} (h:AnsB w g l c s st Y) {R:Option Trm×PS} (hR:R=(if b=true then some t else Option.none,st)) (hk:t.kids=[]) (hn:t.name.length<=8192) :
  SatR ((storeVar 24 ⟨w.heap.size,0,Option.none⟩ (.agg (zd t q cap).toArray)).run PG Y) fun _ w'=>∃ us:List Value,us.length=3/\zo w' ⟨w.heap.size,0,Option.none⟩ us/\zkZ g l c s w R (.returned (jI [.agg us.toArray,.bool b])) w':=by
 refine h.fin (by rw [hR];cases b <;> rfl) (by rw [hR]) fun x hx=>?_;rw [hR] at hx
 cases b with
 | false=>cases hx
 | true=>exact⟨(Ug hx).symm,hn,by rw [hk];exact .nil⟩
end
theorem zns {f:Nat} (hT:zk1 g l c s f) (h:ParB g l c s st w) (hf:4*(s.length-st.tok.at_)<=f) :
  Calls PG 205 #[At0 g] w (zkZ g l c s w (simpleP (zr s) (f+1) st)):=by
 refine z6 115 [At0 g] (.c .p (.s (.b (.s .p (.d (.c .p (.c .p .p)) (.s .p (.d (.c .p (.c .p (.c .p (.c .p (.c .p .p))))) (.c .p (.d (.s .p (.c .p (.c .p (.c .p .p)))) .p))))))) .p)) Tryz.func205 ?_;obtain⟨R,hR⟩:=nm (simpleP (zr s) (f+1) st);rw [<- hR];rw [simpleP] at hR;refine⟨Unit,fun _=>⟨[(0,At0 g),(2,At0 w.heap.size)],[]⟩,fun _ X=>AnsB w g l c s st X,⟨(),(cvE rfl rfl),h.below (zba _ _),zA w _,zh (zba _ _),h.lt⟩,?_⟩;have hlen:=h.len;have hpos:=h.pos;have hdep:=h.dep;rintro _ X hX;refine⟨_,zc (za hX.p.f) (i:=1) rfl,biE (fun h1=>?_) fun h1=>?_⟩
 ·
  have h1:st.tok.kind=4:=dT ((zP (b:=4)).symm.trans h1);rw [Gx h1] at hR;have tl:st.tok.text.length<=8192:=by omega
  refine⟨Nat,fun tb=>⟨[(0,At0 g),(2,At0 w.heap.size),(4,At0 tb)],[]⟩,fun tb Y=>SimB w g l c s st tb (.mk 1 st.tok.text []) none 0 Y,?_,?_⟩
  ·exact⟨_,zc (za hX.p.f) (i:=2) rfl,zd (.mk 1 st.tok.text []) none 0,rfl,hX.box rfl fun Y hY _ _=>⟨_,(cvE rfl rfl),hY⟩⟩
  clear hX X;rintro tb Y hY;refine⟨Unit,fun _=>⟨[(0,At0 g),(2,At0 w.heap.size),(4,At0 tb)],[]⟩,fun _ Y=>SimB w g l c s st tb (.mk 1 st.tok.text []) none 0 Y/\R=((if (jf (zr s) st).1=true then some (.mk 1 st.tok.text []) else none),(jf (zr s) st).2),?_,?_⟩
  ·refine DrawE.ord [] [0,1,2,3,4,5,6,7,8,9,10,11,12,13] (by kernel_rfl) ?_;have hD:=hY.drew;refine⟨_,zc (za hD.x) (i:=1) rfl,cmo (zgj st.tok.text _) ?_⟩;rintro e _ ⟨rfl,rfl⟩;refine⟨Gh _ _,?_⟩;have good:(!jH st.tok.text && !st.lets st.tok.text)=false->R=((if (jf (zr s) st).1=true then some (.mk 1 st.tok.text []) else none),(jf (zr s) st).2):=fun hn=>by
    rw [hR,hn,Gw Ku]
    cases jf (zr s) st with
    | mk b st2=>cases b <;> rfl
   refine biE (fun h2=>?_) fun h2=>?_
   ·have h2:(!jH st.tok.text)=true:=h2;refine⟨_,zc (za hD.p.f) (i:=4) rfl,_,zc (za hD.x) (i:=1) rfl,_,fun w2 hb=>zdb (hD.p.lm.below hb) st.tok.text,biE (fun h3=>?_) fun h3=>?_⟩
    ·have h3:(!st.lets st.tok.text)=true:=h3;rw [h2,h3] at hR;rw [Gx (by rfl:(true&&true)=true)] at hR;have hE:=hD.drew;refine DrawE.treeQ [2,3] (.op 1 (.alt (.op 2 (.op 0 (.op 3 (.op 4 .nil)))) (.op 0 (.op 2 (.op 3 (.op 4 .nil)))))) (by kernel_rfl) (Gm ?_ ?_)
     ·refine cmo (js hE.p 112) ?_;rintro e Z ⟨rfl,hZ,gZ⟩;have hE2:=hE.grown hZ gZ;exact⟨_,rfl,za hE2.x,hlt hE2.x,hE2.ans.none hR⟩
     ·refine⟨_,rfl,za hE.x,hlt hE.x,cmo (js hE.p 112) ?_⟩;rintro e Z ⟨rfl,hZ,gZ⟩;exact (hE.grown hZ gZ).ans.none hR
    ·have h3:(!st.lets st.tok.text)=false:=h3;exact⟨(),(cvE rfl rfl),hD,good (by rw [h3,Uk])⟩
   ·have h2:(!jH st.tok.text)=false:=h2;exact brF ⟨(),(cvE rfl rfl),hD,good (by rw [h2,Ul])⟩
  clear hY hR Y;rintro _ Y ⟨hY,hR⟩;have hE:=hY.drew;refine DrawE.treeQ [2,3] (.op 1 (.alt (.op 2 (.op 0 (.op 3 (.op 4 .nil)))) (.op 0 (.op 2 (.op 3 (.op 4 .nil)))))) (by kernel_rfl) (Gm ?_ ?_)
  ·refine cmo (zgS hE.p) ?_;rintro e2 Z ⟨rfl,hZ,gZ⟩;have hE2:=hE.grown hZ gZ;exact⟨_,rfl,za hE2.x,hlt hE2.x,hE2.ans.leaf hR rfl tl⟩
  ·refine⟨_,rfl,za hE.x,hlt hE.x,cmo (zgS hE.p) ?_⟩;rintro e2 Z ⟨rfl,hZ,gZ⟩;exact (hE.grown hZ gZ).ans.leaf hR rfl tl
 have h1:st.tok.kind≠4:=dF ((zP (b:=4)).symm.trans h1);rw [Gw h1] at hR;refine cmo (zrs hX.p [91]) ?_;rintro e _ ⟨rfl,rfl⟩;refine biE (fun h2=>?_) fun h2=>?_
 ·
  have h2:isP st [91]=true:=h2;rw [Gx h2] at hR;rcases hnd:jf (zr s) st with ⟨nb,st2⟩;rw [hnd] at hR;refine⟨Unit,fun _=>⟨[(0,At0 g),(2,At0 w.heap.size)],[]⟩,fun _ Y=>AnsB w g l c s st2 Y/\nb=true,?_,?_⟩
  ·refine cmo (zgS hX.p) ?_;rintro e Y ⟨rfl,hY,gY⟩;rw [hnd] at hY ⊢;dsimp only at hY;have hY2:=hX.grown hY gY;refine biE (fun h3=>?_) fun h3=>?_
   ·have h3:(!nb)=true:=h3;have h3:nb=false:=(by simpa using h3);subst h3;exact⟨zd zT none 0,rfl,hY2.none hR⟩
   ·have h3:(!nb)=false:=h3;exact⟨(),(cvE rfl rfl),hY2,by simpa using h3⟩
  clear hX X;rintro _ Y ⟨hY,rfl⟩;dsimp only at hR;have hp2:=hY.p.pos;have tl:st2.tok.text.length<=8192:=by omega
  refine⟨Nat,fun tb=>⟨[(0,At0 g),(2,At0 w.heap.size),(5,At0 tb)],[]⟩,fun tb Y=>SimB w g l c s st2 tb (.mk 9 st2.tok.text []) none 0 Y,?_,?_⟩
  ·exact⟨_,zc (za hY.p.f) (i:=2) rfl,zd (.mk 9 st2.tok.text []) none 0,rfl,hY.box rfl fun Z hZ _ _=>⟨_,(cvE rfl rfl),hZ⟩⟩
  clear hY Y;rintro tb Z hZ;refine⟨Unit,fun _=>⟨[(0,At0 g),(2,At0 w.heap.size),(5,At0 tb)],[]⟩,fun _ Y=>SimB w g l c s st2 tb (.mk 9 st2.tok.text []) none 0 Y/\st2.tok.kind=5,?_,?_⟩
  ·refine⟨_,zc (za hZ.p.f) (i:=1) rfl,biE (fun h4=>?_) fun h4=>?_⟩
   ·have h4:(!decide ((st2.tok.kind:Int)=((5:Nat):Int)))=true:=h4;rw [zP] at h4;have h4:st2.tok.kind≠5:=(by simpa using h4);rw [Gx h4] at hR;have hE:=hZ.drew;refine DrawE.treeQ [2,3] (.op 1 (.alt (.op 2 (.op 0 (.op 3 (.op 4 .nil)))) (.op 0 (.op 2 (.op 3 (.op 4 .nil)))))) (by kernel_rfl) (Gm ?_ ?_)
    ·refine cmo (js hE.p 110) ?_;rintro e2 V ⟨rfl,hV,gV⟩;have hE2:=hE.grown hV gV;exact⟨_,rfl,za hE2.x,hlt hE2.x,hE2.ans.none hR⟩
    ·refine⟨_,rfl,za hE.x,hlt hE.x,cmo (js hE.p 110) ?_⟩;rintro e2 V ⟨rfl,hV,gV⟩;exact (hE.grown hV gV).ans.none hR
   ·have h4:(!decide ((st2.tok.kind:Int)=((5:Nat):Int)))=false:=h4;rw [zP] at h4;exact⟨(),(cvE rfl rfl),hZ,by simpa using h4⟩
  clear hZ Z;rintro _ Z ⟨hZ,h4⟩;rw [Gw (fun k=>k h4)] at hR;refine⟨Unit,fun _=>⟨[(0,At0 g),(2,At0 w.heap.size),(5,At0 tb)],[]⟩,fun _ Y=>SimB w g l c s st2 tb (.mk 9 st2.tok.text []) none 0 Y/\zfd st2.tok.text=true,?_,?_⟩
  ·refine⟨_,zc (za hZ.x) (i:=1) rfl,cmo (zmU st2.tok.text Z) ?_⟩;rintro e _ ⟨rfl,rfl⟩;refine biE (fun h5=>?_) fun h5=>?_
   ·have h5:(!zfd st2.tok.text)=true:=h5;have h5:zfd st2.tok.text=false:=(by simpa using h5);rw [Gx h5] at hR;have hE:=hZ.drew;refine DrawE.treeQ [2,3] (.op 1 (.alt (.op 2 (.op 0 (.op 3 (.op 4 .nil)))) (.op 0 (.op 2 (.op 3 (.op 4 .nil)))))) (by kernel_rfl) (Gm ?_ ?_)
    ·refine cmo (js hE.p 112) ?_;rintro e2 V ⟨rfl,hV,gV⟩;have hE2:=hE.grown hV gV;exact⟨_,rfl,za hE2.x,hlt hE2.x,hE2.ans.none hR⟩
    ·refine⟨_,rfl,za hE.x,hlt hE.x,cmo (js hE.p 112) ?_⟩;rintro e2 V ⟨rfl,hV,gV⟩;exact (hE.grown hV gV).ans.none hR
   ·have h5:(!zfd st2.tok.text)=false:=h5;exact⟨(),(cvE rfl rfl),hZ,by simpa using h5⟩
  clear hZ Z;rintro _ Z ⟨hZ,h5⟩;rw [Gw (by rw [h5];decide)] at hR;refine⟨Unit,fun _=>⟨[(0,At0 g),(2,At0 w.heap.size),(5,At0 tb)],[]⟩,fun _ Y=>SimB w g l c s (nx s st2) tb (.mk 9 st2.tok.text []) none 0 Y,?_,?_⟩
  ·refine cmo (zbp hZ.p) ?_;rintro e Z2 ⟨rfl,hZ2,gZ2⟩;exact⟨(),(cvE rfl rfl),hZ.grown hZ2 gZ2⟩
  clear hZ Z;rintro _ Z hZ;have hE:=hZ.drew;have eR:R=((if (zY (zr s) 6 [93] (nx s st2)).1=true then some (.mk 9 st2.tok.text []) else none),(zY (zr s) 6 [93] (nx s st2)).2):=by
   rw [hR];show (match zY (zr s) 6 [93] (nx s st2) with | (true,st3)=>_ | (false,st3)=>_)=_
   cases zY (zr s) 6 [93] (nx s st2) with
   | mk b st3=>cases b <;> rfl
  refine DrawE.treeQ [2,3] (.op 1 (.alt (.op 2 (.op 0 (.op 3 (.op 4 .nil)))) (.op 0 (.op 2 (.op 3 (.op 4 .nil)))))) (by kernel_rfl) (Gm ?_ ?_)
  ·refine cmo (zcp hE.p 6 [93]) ?_;rintro e2 V ⟨rfl,hV,gV⟩;have hE2:=hE.grown hV gV;exact⟨_,rfl,za hE2.x,hlt hE2.x,hE2.ans.leaf eR rfl tl⟩
  ·refine⟨_,rfl,za hE.x,hlt hE.x,cmo (zcp hE.p 6 [93]) ?_⟩;rintro e2 V ⟨rfl,hV,gV⟩;exact (hE.grown hV gV).ans.leaf eR rfl tl
 have h2:isP st [91]=false:=h2;rw [Gw (by rw [h2];exact Ku)] at hR;refine⟨Bool,fun b=>⟨[(0,At0 g),(2,At0 w.heap.size),(75,.bool b)],[]⟩,fun b Y=>AnsB w g l c s st Y/\b=(isP st [40]&&decide (st.deep<50)),?_,?_⟩
 ·refine cmo (zrs hX.p [40]) ?_;rintro e _ ⟨rfl,rfl⟩;refine biE (fun h3=>?_) fun h3=>?_
  ·have h3:isP st [40]=true:=h3;refine⟨_,zc (za hX.p.f) (i:=7) rfl,decide (st.deep<50),⟨.cons rfl (.cons rfl (.cons ?_ .nil)),rfl⟩,hX,by rw [h3];rfl⟩;show some (Value.bool (decide ((st.deep:Int)<50)))=some (.bool (decide (st.deep<50)));congr 2;rw [QH];omega
  ·have h3:isP st [40]=false:=h3;exact⟨false,(cvE rfl rfl),hX,by rw [h3];rfl⟩
 clear hX X;rintro b X ⟨hX,hb⟩;refine biE (fun hbt=>?_) fun hbf=>?_
 ·
  have hbt:b=true:=hbt;rw [hbt] at hb;rw [Gx hb.symm] at hR;have hb2:=hb.symm;rw [bAT,dE] at hb2;obtain⟨h3,h4⟩:=hb2;obtain⟨st2,hs2⟩:∃ st2,st2=zN (zr s) { st with deep:=st.deep+1 }:=⟨_,rfl⟩;rw [<- hs2] at hR;have d2:st2.deep=st.deep+1:=by rw [hs2];rfl
  have at2:st.tok.at_+1<=st2.tok.at_:=by
   have:=zii s { st with deep:=st.deep+1 };have hl1:=zbr h3;rw [hs2];refine UT ?_ this;show _<=st.tok.at_+st.tok.text.length;rw [hl1];exact Gc _
  have hl0:1<=s.length-st.tok.at_:=by
   have hl1:=zbr h3;have:([40]:Bs).length=1:=rfl;omega
  refine⟨_,zc (za hX.p.f) (i:=7) rfl,((st.deep+1:Nat):Int),(zi (by omega)).trans (by omega),hX.p.deep (n:=st.deep+1) (by omega) fun Y hY gY=>?_⟩;have hXY:=hX.grown hY gY;refine⟨Unit,fun _=>⟨[(0,At0 g),(2,At0 w.heap.size)],[]⟩,fun _ Y=>AnsB w g l c s st2 Y,?_,?_⟩
  ·refine cmo (zbp hXY.p) ?_;rintro e Z ⟨rfl,hZ,gZ⟩;rw [hs2];exact⟨(),(cvE rfl rfl),hXY.grown hZ gZ⟩
  clear hXY hY gY Y hX X;rintro _ Z hZ;rcases htm:termP (zr s) f 1 st2 with ⟨r1,st3⟩;rw [htm] at hR;have hm:=(zaZ (s:=s) f).1 1 st2;rw [htm] at hm;have d3:st3.deep=st.deep+1:=by rw [<- d2];exact hm.2.1
  refine⟨Nat×Trm×OA×Nat,fun y=>⟨[(0,At0 g),(2,At0 w.heap.size),(6,At0 y.1),(7,.bool r1.isSome)],[]⟩,fun y Y=>SimB w g l c s st3 y.1 y.2.1 y.2.2.1 y.2.2.2 Y/\∀ x,r1=some x->x=y.2.1/\y.2.1.name.length<=8192/\KidsT (fun b=>w.heap.size<b) Y y.2.2.1 y.2.1.kids,?_,?_⟩
  ·refine cmo (hT 1 st2 Z (by decide) hZ.p (by omega)) ?_;rw [htm];rintro e V ⟨t,q,cap,rfl,hk,hV,gV⟩;dsimp only at hk hV;have hZV:=hZ.grown hV gV;refine hZV.box rfl fun U hU bU _=>⟨(V.heap.size,t,q,cap),(cvE rfl rfl),hU,fun x hx=>?_⟩;obtain⟨k1,k2,k3⟩:=hk x hx;refine⟨k1,k2,(k3.kept bU).weak fun b hb=>?_⟩;have:=hlt hZ.r;omega
  clear hZ Z;rintro⟨tb,t,q,cap⟩ U ⟨hU,hk⟩;dsimp only at hU hk ⊢;refine⟨Unit,fun _=>⟨[(0,At0 g),(2,At0 w.heap.size),(6,At0 tb),(7,.bool r1.isSome)],[]⟩,fun _ Y=>SimB w g l c s { st3 with deep:=st3.deep-1 } tb t q cap Y/\∀ x,r1=some x->x=t/\t.name.length<=8192/\KidsT (fun b=>w.heap.size<b) Y q t.kids,?_,?_⟩
  ·refine⟨_,zc (za hU.p.f) (i:=7) rfl,((st3.deep-1:Nat):Int),(zi (by omega)).trans (by omega),hU.p.deep (n:=st3.deep-1) (by omega) fun T hTb gT=>⟨(),(cvE rfl rfl),hU.grown hTb gT,fun x hx=>?_⟩⟩;obtain⟨k1,k2,k3⟩:=hk x hx;have:=hU.g;exact⟨k1,k2,k3.by fun b cs ty fr hb hc=>gT.block b (hlt hc) (by simp;omega)⟩
  clear hU hk U;rintro _ T ⟨hTT,hk⟩;have hE:=hTT.drew;have hkE:∀ x,r1=some x->x=t/\t.name.length<=8192/\KidsT (fun b=>w.heap.size<b) T.drew q t.kids:=fun x hx=>by
   obtain⟨k1,k2,k3⟩:=hk x hx;exact⟨k1,k2,k3.kept (Gh _ T).drew⟩
  cases r1 with
  | none =>
   refine DrawE.treeQ [4,6] (.op 1 (.op 2 (.op 3 (.alt (.op 4 (.op 0 (.op 5 (.op 6 (.op 7 .nil))))) (.op 0 (.op 4 (.op 5 (.op 6 (.op 7 .nil))))))))) (by kernel_rfl) (brF (Gm ?_ ?_))
   ·exact⟨_,rfl,za hE.x,hlt hE.x,hE.ans.none hR⟩
   ·exact⟨_,rfl,za hE.x,hlt hE.x,hE.ans.none hR⟩
  | some t1 =>
   obtain⟨k1,k2,k3⟩:=hkE t1 rfl;subst k1;have eR:R=((if (zY (zr s) 6 [41] { st3 with deep:=st3.deep-1 }).1=true then some t1 else none),(zY (zr s) 6 [41] { st3 with deep:=st3.deep-1 }).2):=by
    rw [hR];dsimp only
    cases zY (zr s) 6 [41] { st3 with deep:=st3.deep-1 } with
    | mk b st4=>cases b <;> rfl
   have gw:=hE.g;have fEnd:∀ {N:Wd},SimB w g l c s (zY (zr s) 6 [41] { st3 with deep:=st3.deep-1 }).2 tb t1 q cap N->T.drew.grownBy N (some g)->SatR ((storeVar 24 ⟨w.heap.size,0,none⟩ (.agg (zd t1 q cap).toArray)).run PG N) fun _ w'=>∃ us:List Value,us.length=3/\zo w' ⟨w.heap.size,0,none⟩ us/\zkZ g l c s w R (.returned (jI [.agg us.toArray,.bool (zY (zr s) 6 [41] { st3 with deep:=st3.deep-1 }).1])) w':=by
    intro N hN gN;refine hN.ans.fin (by rw [eR];dsimp only;cases (zY (zr s) 6 [41] { st3 with deep:=st3.deep-1 }).1 <;> rfl) (by rw [eR]) fun x hx=>?_;rw [eR] at hx;dsimp only at hx
    split at hx
    ·exact⟨(Ug hx).symm,k2,k3.by fun b cs ty fr hb hc=>gN.block b (hlt hc) (by simp;omega)⟩
    ·cases hx
   refine DrawE.treeQ [4,6] (.op 1 (.op 2 (.op 3 (.alt (.op 4 (.op 0 (.op 5 (.op 6 (.op 7 .nil))))) (.op 0 (.op 4 (.op 5 (.op 6 (.op 7 .nil))))))))) (by kernel_rfl) (brT (Gm ?_ ?_))
   ·refine cmo (zcp hE.p 6 [41]) ?_;rintro e2 N ⟨rfl,hN,gN⟩;have hE2:=hE.grown hN gN;exact⟨_,rfl,za hE2.x,hlt hE2.x,fEnd hE2 gN⟩
   ·refine⟨_,rfl,za hE.x,hlt hE.x,cmo (zcp hE.p 6 [41]) ?_⟩;rintro e2 N ⟨rfl,hN,gN⟩;exact fEnd (hE.grown hN gN) gN
 ·have hbf:b=false:=hbf;rw [hbf] at hb;rw [Gw (by rw [<- hb];exact Ku)] at hR;refine⟨zd zT none 0,rfl,cmo (js hX.p 110) ?_⟩;rintro e2 V ⟨rfl,hV,gV⟩;exact (hX.grown hV gV).none hR
end
theorem zoy {n:Nat} (h:n<=255):u8n n=u8 (UInt8.ofNat n):=by
 unfold u8n u8;rw [KH,QC (by omega)]
section
variable {Q:Nat->Prop} {w:Wd}
theorem KidsT.one {t:Trm} {q:OA} {cap b:Nat} (hb:Q b) (hc:zo w ⟨b,0,none⟩ (zd t q cap)) (hn:t.name.length<=8192) (hk:KidsT Q w q t.kids):KidsT Q w (some ⟨b,0,none⟩) [t] :=
 .mk _ [t] (by show 1<=_;decide) b 0 (.inr rfl) (fun _=>q) (fun _=>cap) (fun i hi=>by
  obtain rfl:i=0:=by have:i<1:=hi;omega
  exact⟨by show t.name.length<=_;omega,hb,hc⟩) (fun i hi=>by
  obtain rfl:i=0:=by have:i<1:=hi;omega
  exact hk)
theorem KidsT.two {t u:Trm} {q p:OA} {cap cp b:Nat} (hb:Q b) (hc:zo w ⟨b,0,none⟩ (zd t q cap++zd u p cp)) (hn:t.name.length<=140737488351232) (hk:KidsT Q w q t.kids) (hn2:u.name.length<=140737488351232) (hk2:KidsT Q w p u.kids):KidsT Q w (some ⟨b,0,none⟩) [t,u]:=by
 have hc2:=zoh.1 hc;refine .mk _ [t,u] (by show 2<=_;decide) b 0 (.inr rfl) (fun i=>if i=0 then q else p) (fun i=>if i=0 then cap else cp) (fun i hi=>?_) (fun i hi=>?_)
 ·have hi:i<2:=hi;rcases (by omega:i=0\/i=1) with rfl | rfl
  ·exact⟨by show t.name.length<=_;omega,hb,hc2.1⟩
  ·exact⟨by show u.name.length<=_;omega,hb,hc2.2⟩
 ·have hi:i<2:=hi;rcases (by omega:i=0\/i=1) with rfl | rfl
  ·exact hk
  ·exact hk2
end
def zeA (st:PS):Nat->Nat
 | 0=>0
 | i+1=>if isP st (jz.getD (6+i) []) then 6+i else zeA st i
theorem zj4 (st:PS):∀ i,i<=3->zeA st i<=8
 | 0,_=>Ge _
 | i+1,h=>by
  unfold zeA
  split
  ·omega
  ·exact zj4 st i (by omega)
theorem znK {st:PS} (h:zad st≠0):1<=st.tok.text.length:=by
 unfold zad at h
 split at h
 ·rename_i h1;rw [zbr h1];decide
 ·split at h
  ·rename_i h1;rw [zbr h1];decide
  ·split at h
   ·rename_i h1;rw [zbr h1];decide
   ·exact Gy rfl h
theorem zif {st:PS} (h:zX st≠0):1<=st.tok.text.length/\2<=zX st/\zX st<=5/\zbw.getD (zX st) 0=zX st-1:=by
 unfold zX at h ⊢
 split
 ·rename_i h1;rw [zbr h1];decide
 ·split
  ·rename_i h1;rw [zbr h1];decide
  ·split
   ·rename_i h1;rw [zbr h1];decide
   ·split
    ·rename_i h1;rw [zbr h1];decide
    ·rename_i h1 h2 h3 h4;rw [Gw h1,Gw h2,Gw h3,Gw h4] at h;exact Gy rfl h
theorem zmM {s:Bs} {st st2:PS} (h:jf (zr s) st=(true,st2)) (hl:1<=st.tok.text.length):st.tok.at_+1<=st2.tok.at_:=by
 unfold jf at h
 split at h
 ·cases h
 ·have h2:=(Gf h).2;rw [<- h2];have:=zii s { st with nodes:=st.nodes+1 };refine UT ?_ this;show _<=st.tok.at_+st.tok.text.length;omega
section
variable {g l c:Nat} {s:Bs} {st:PS} {w w2 X:Wd}
theorem SimB.store {tb:Nat} {t t':Trm} {q q':OA} {cap cap':Nat} {Y:Wd} (h:SimB w g l c s st tb t q cap Y) {K:Wd->Prop} (k:∀ Z,SimB w g l c s st tb t' q' cap' Z->(∀ j,j≠tb->Z.heap[j]?=Y.heap[j]?)->K Z) :
  SatR ((storeVar 24 ⟨tb,0,none⟩ (.agg (zd t' q' cap').toArray)).run PG Y) fun _ w'=>K w' :=
 zfb (t:=t') (q:=q') (cap:=cap') (US h.lt) h.x rfl h.p h.o h.g fun Z hZ gZ fZ oZ _=>k Z ⟨hZ,(oZ _ (by have:=h.lt;omega)).trans h.r,fZ,gZ,h.lt,h.g⟩ oZ
theorem SimB.below {tb:Nat} {t:Trm} {q:OA} {cap:Nat} {Y Z:Wd} (h:SimB w g l c s st tb t q cap Y) (hb:Bw Y Z):SimB w g l c s st tb t q cap Z :=
 h.grown (h.p.below hb) (zh hb)
theorem zoH {n:Nat} (hT:zk1 g l c s n) (h:ParB g l c s st w) (hf:4*(s.length-st.tok.at_)<=n) :
  Calls PG 162 #[At0 g] w (zkZ g l c s w (tightP (zr s) (n+2) st)):=by
 refine z6 36 [At0 g] (.c .p (.s .p (.s (.b (.l (.s .p (.b (.s .p (.c .p (.c .p (.c .p .p)))))))) .p))) Tryz.func162 ?_;obtain⟨R,hR⟩:=nm (tightP (zr s) (n+2) st);rw [<- hR];rw [tightP] at hR;refine⟨Unit,fun _=>⟨[(0,At0 g),(2,At0 w.heap.size)],[]⟩,fun _ X=>AnsB w g l c s st X,⟨(),(cvE rfl rfl),h.below (zba _ _),zA w _,zh (zba _ _),h.lt⟩,?_⟩;rintro _ X hX;refine cmo (zns hT hX.p hf) ?_;rintro e V ⟨t,q,cap,rfl,hk,hV,gV⟩;have hm:=(zaZ (s:=s) (n+1)).2.2.2.2 st;rcases hsm:simpleP (zr s) (n+1) st with ⟨r1,st1⟩;rw [hsm] at hk hV hm hR;dsimp only at hk hV hm hR;have hXs:=hlt hX.r;have hVV:=hX.grown hV gV;refine hVV.box rfl fun U hU bU _=>?_;obtain⟨tb,htb⟩:=nm (V.heap.size);rw [<- htb] at hU ⊢;refine⟨Trm×OA×Nat×Bool×PS×Nat,fun y=>⟨[(0,At0 g),(2,At0 w.heap.size),(4,At0 tb),(5,.bool y.2.2.2.1)],[]⟩,
  fun y Y=>SimB w g l c s y.2.2.2.2.1 tb y.1 y.2.1 y.2.2.1 Y /\
   (y.2.2.2.1=true->y.1.name.length<=8192/\KidsT (fun b=>w.heap.size<b/\b≠tb) Y y.2.1 y.1.kids/\R=postsP (zr s) y.2.2.2.2.2 y.1 y.2.2.2.2.1/\s.length-y.2.2.2.2.1.tok.at_+1<=y.2.2.2.2.2) /\
   (y.2.2.2.1=false->R=(none,y.2.2.2.2.1)),
  fun y=>if y.2.2.2.1 then y.2.2.2.2.2+1 else 0,(t,q,cap,r1.isSome,st1,n+1),(cvE rfl rfl),?_,?_⟩
 ·refine⟨hU,fun ho=>?_,fun ho=>?_⟩
  ·cases r1 with
   | none=>cases ho
   | some t1 =>
    obtain⟨e1,e2,e3⟩:=hk t1 rfl;refine⟨e2,(e3.there.kept bU).weak fun b hb=>by omega,by rw [hR,<- e1],?_⟩;have h1:=hm.1;dsimp only;omega
  ·cases r1 with
   | none=>exact hR
   | some t1=>cases ho
 clear hk hm hR hU bU hVV hV gV hT hf hsm hXs hX;rintro⟨t,q,cap,ok,st1,f1⟩ Y ⟨hY,hok,hno⟩;dsimp only at hY hok hno ⊢;refine biE (fun ho=>?_) fun ho=>?_
 ·have ho:ok=true:=ho;subst ho;obtain⟨hn,hk,hR,hf1⟩:=hok rfl;clear hok hno;obtain⟨f',rfl⟩:∃ f',f1=f'+1:=⟨f1-1,by omega⟩;rw [postsP] at hR;refine⟨Unit,fun _=>⟨[(0,At0 g),(2,At0 w.heap.size),(4,At0 tb),(5,.bool true),(6,u8n (zad st1))],[]⟩,fun _ V=>Y=V,?_,?_⟩
  ·refine⟨[.int .u8 6,.int .u8 7,.int .u8 8],rfl,?_⟩;refine⟨Nat,fun i=>⟨[(0,At0 g),(2,At0 w.heap.size),(4,At0 tb),(5,.bool true),(6,u8n (zeA st1 i)),(15,.agg #[.int .u8 6,.int .u8 7,.int .u8 8]),(16,.int .i64 (i:Nat))],[]⟩,fun i V=>i<=3/\Y=V,fun i=>3-i,0,
    (cvE rfl rfl),⟨Ge _,rfl⟩,?_⟩
   rintro i _ ⟨hi,rfl⟩;refine biE (fun h1=>?_) fun h1=>?_
   ·have h1:(i:Int)<3:=dT h1;have hget:[Value.int .u8 6,.int .u8 7,.int .u8 8][i*1]?=some (u8n (6+i)):=by
     rcases (by omega:i=0\/i=1\/i=2) with rfl | rfl | rfl <;> rfl
    refine⟨i,rfl,by omega,?_⟩;refine za5 hget ⟨6+i,rfl,by omega,?_⟩;refine⟨_,by rw [Gd];exact zf7 hY.p.glob (by omega),cmo (zrs hY.p (jz.getD (6+i) [])) ?_⟩;rintro e _ ⟨rfl,rfl⟩;refine biE (fun h2=>?_) fun h2=>?_
    ·have h2:isP st1 (jz.getD (6+i) [])=true:=h2;have e:zeA st1 (i+1)=6+i:=(by rw [zeA,Gx h2]);exact nxI (by omega) ⟨i+1,⟨.cons rfl (.cons rfl (.cons rfl (.cons rfl (.cons (Gq (fun n:Nat=>some (u8n n)) e.symm) (.cons rfl (.cons rfl .nil)))))),rfl⟩,⟨by omega,rfl⟩,by dsimp only;omega⟩
    ·have h2:isP st1 (jz.getD (6+i) [])=false:=h2;have e:zeA st1 (i+1)=zeA st1 i:=(by rw [zeA,Gw (by rw [h2];exact Ku)]);exact nxI (by omega) ⟨i+1,⟨.cons rfl (.cons rfl (.cons rfl (.cons rfl (.cons (Gq (fun n:Nat=>some (u8n n)) e.symm) (.cons rfl (.cons rfl .nil)))))),rfl⟩,⟨by omega,rfl⟩,by dsimp only;omega⟩
   ·have h1:¬ (i:Int)<3:=dF h1;obtain rfl:i=3:=(by omega);exact⟨(),(cvE rfl rfl),rfl⟩
  rintro _ _ rfl;refine⟨Unit,fun _=>⟨[(0,At0 g),(2,At0 w.heap.size),(4,At0 tb),(6,u8n (zad st1))],[]⟩,fun _ V=>zad st1≠0/\Y=V,?_,?_⟩
  ·refine biE (fun h2=>?_) fun h2=>?_
   ·have h2:((zad st1:Nat):Int)=0:=dT h2;rw [Gx (by omega)] at hR;refine⟨_,rfl,za hY.x,hlt hY.x,?_⟩;exact hY.ans.fin (by rw [hR];rfl) (by rw [hR]) fun x hx=>by
     rw [hR] at hx;exact⟨(Ug hx).symm,hn,hk.weak fun b hb=>hb.1⟩
   ·have h2:¬ ((zad st1:Nat):Int)=0:=dF h2;exact⟨(),(cvE rfl rfl),by omega,rfl⟩
  rintro _ _ ⟨hp0,rfl⟩;rw [Gw hp0] at hR;have hp8:zad st1<=8:=zj4 st1 3 (by decide);have hlen1:=znK hp0;rcases hne:jf (zr s) st1 with ⟨b,st2⟩;rw [hne] at hR;refine⟨Unit,fun _=>⟨[(0,At0 g),(2,At0 w.heap.size),(4,At0 tb),(5,.bool b),(6,u8n (zad st1))],[]⟩,fun _ N=>SimB w g l c s st2 tb t q cap N/\KidsT (fun b=>w.heap.size<b/\b≠tb) N q t.kids,?_,?_⟩
  ·refine cmo (zgS hY.p) ?_;rw [hne];rintro e N ⟨rfl,hN,gN⟩;have:=hY.g;exact⟨(),(cvE rfl rfl),hY.grown hN gN,hk.by fun b cs ty fr hb hc=>gN.block b (hlt hc) (by simp;omega)⟩
  have hps:=hY.p.pos;clear hY hk Y;rintro _ N ⟨hN,hk⟩;refine⟨_,rfl,za hN.x,hlt hN.x,⟨by decide,by decide,rfl⟩,zd t q cap,rfl,zd (.mk (UInt8.ofNat (zad st1)) [] [t]) (some ⟨N.heap.size,0,none⟩) 1,?_,?_⟩
  ·show some [u8n (zad st1),zn [],.slice (some ⟨N.heap.size,0,none⟩) 1 1]=_;rw [zoy (by omega)];rfl
  have hlx:=hlt hN.x;have bN:=zba N (.cells (zd t q cap).toArray 24);have fnb:=zA N (.cells (zd t q cap).toArray 24);refine (hN.below bN).store fun Z hZ oZ=>⟨(.mk (UInt8.ofNat (zad st1)) [] [t],some ⟨N.heap.size,0,none⟩,1,b,st2,f'),(cvE rfl rfl),⟨hZ,fun hb=>?_,fun hb=>?_⟩,?_⟩
  ·have hb:b=true:=hb;subst hb;have hon:=zmM hne hlen1;have:=hN.lt;refine⟨by show ([]:Bs).length<=_;decide,.one (q:=q) (cap:=cap) ⟨by omega,by omega⟩ ?_ hn ?_,hR,by dsimp only;omega⟩
   ·exact za ((oZ _ (by omega)).trans fnb)
   ·exact (hk.kept bN).by fun b cs ty fr hb hc=>oZ b hb.2
  ·have hb:b=false:=hb;subst hb;exact hR
  ·cases b
   ·show 0<f'+1+1;omega
   ·show f'+1<f'+1+1;omega
 ·have ho:ok=false:=ho;subst ho;have hR:=hno rfl;exact⟨zd zT none 0,rfl,hY.ans.none hR⟩
end
section
variable {g l c:Nat} {s:Bs} {st:PS} {w w2 X:Wd}
theorem zqU {n:Nat} (hT:∀ f,f<n+3->zk1 g l c s f):zk1 g l c s (n+3):=by
 intro least st w hl5 h hf;refine z6 46 [At0 g,i64 (least:Nat)] (.c .p (.s .p (.s (.b (.l (.s .p (.b (.c .p (.c .p (.c .p (.s .p (.c .p .p)))))))) ) .p))) Tryz.func111 ?_;obtain⟨R,hR⟩:=nm (termP (zr s) (n+3) least st);rw [<- hR];rw [termP] at hR;refine⟨Unit,fun _=>⟨[(0,At0 g),(1,i64 (least:Nat)),(4,At0 w.heap.size)],[]⟩,fun _ X=>AnsB w g l c s st X,⟨(),(cvE rfl rfl),h.below (zba _ _),zA w _,zh (zba _ _),h.lt⟩,?_⟩;rintro _ X hX;refine cmo (zoH (hT n (by omega)) hX.p (by omega)) ?_;rintro e V ⟨t,q,cap,rfl,hk,hV,gV⟩;have hm:=(zaZ (s:=s) (n+2)).2.2.1 st;rcases hsm:tightP (zr s) (n+2) st with ⟨r1,st1⟩;rw [hsm] at hk hV hm hR;dsimp only at hk hV hm hR;have hXs:=hlt hX.r;have hVV:=hX.grown hV gV;refine hVV.box rfl fun U hU bU _=>?_;obtain⟨tb,htb⟩:=nm (V.heap.size);rw [<- htb] at hU ⊢;refine⟨Trm×OA×Nat×Bool×PS×Nat,fun y=>⟨[(0,At0 g),(1,i64 (least:Nat)),(4,At0 w.heap.size),(6,At0 tb),(7,.bool y.2.2.2.1)],[]⟩,
  fun y Y=>SimB w g l c s y.2.2.2.2.1 tb y.1 y.2.1 y.2.2.1 Y/\y.2.2.2.2.2<=n+2 /\
   (y.2.2.2.1=true->y.1.name.length<=8192/\KidsT (fun b=>w.heap.size<b/\b≠tb) Y y.2.1 y.1.kids/\R=moreP (zr s) y.2.2.2.2.2 least y.1 y.2.2.2.2.1/\4*(s.length-y.2.2.2.2.1.tok.at_)+1<=y.2.2.2.2.2) /\
   (y.2.2.2.1=false->R=(none,y.2.2.2.2.1)),
  fun y=>if y.2.2.2.1 then y.2.2.2.2.2+1 else 0,(t,q,cap,r1.isSome,st1,n+2),(cvE rfl rfl),?_,?_⟩
 ·refine⟨hU,Gc _,fun ho=>?_,fun ho=>?_⟩
  ·cases r1 with
   | none=>cases ho
   | some t1 =>
    obtain⟨e1,e2,e3⟩:=hk t1 rfl;refine⟨e2,(e3.there.kept bU).weak fun b hb=>by omega,by rw [hR,<- e1],?_⟩;have h1:=hm.1;dsimp only;omega
  ·cases r1 with
   | none=>exact hR
   | some t1=>cases ho
 clear hk hm hR hU bU hVV hV gV hf hsm hXs hX;rintro⟨t,q,cap,ok,st1,f1⟩ Y ⟨hY,hfn,hok,hno⟩;dsimp only at hY hfn hok hno ⊢;refine biE (fun ho=>?_) fun ho=>?_
 ·have ho:ok=true:=ho;subst ho;obtain⟨hn,hk,hR,hf1⟩:=hok rfl;clear hok hno;obtain⟨f',rfl⟩:∃ f',f1=f'+1:=⟨f1-1,by omega⟩;rw [moreP] at hR;have hps:=hY.p.pos;refine⟨Unit,fun _=>⟨[(0,At0 g),(1,i64 (least:Nat)),(4,At0 w.heap.size),(6,At0 tb),(7,.bool true),(8,u8n (zX st1))],[]⟩,fun _ V=>Y=V,?_,?_⟩
  ·refine cmo (zlx hY.p) ?_;rintro e _ ⟨rfl,rfl⟩;exact⟨(),(cvE rfl rfl),rfl⟩
  rintro _ _ rfl;refine⟨Unit,fun _=>⟨[(0,At0 g),(1,i64 (least:Nat)),(4,At0 w.heap.size),(6,At0 tb),(8,u8n (zX st1))],[]⟩,fun _ V=>zX st1≠0/\¬ zX st1-1<least/\Y=V,?_,?_⟩
  ·have stop:(zX st1=0\/zX st1-1<least)->∃ us:List Value,us.length=3/\zo Y ⟨tb,0,none⟩ us/\tb<Y.heap.size /\
     SatR ((storeVar 24 ⟨w.heap.size,0,none⟩ (.agg us.toArray)).run PG Y) fun _ w'=>∃ us:List Value,us.length=3/\zo w' ⟨w.heap.size,0,none⟩ us/\zkZ g l c s w R (.returned (jI [.agg us.toArray,.bool true])) w':=by
    intro hc;rw [Gx hc] at hR;refine⟨_,rfl,za hY.x,hlt hY.x,?_⟩;exact hY.ans.fin (by rw [hR];rfl) (by rw [hR]) fun x hx=>by
     rw [hR] at hx;exact⟨(Ug hx).symm,hn,hk.weak fun b hb=>hb.1⟩
   refine biE (fun h2=>?_) fun h2=>?_
   ·have h2:((zX st1:Nat):Int)=0:=dT h2;exact brT (stop (.inl (by omega)))
   have h2:¬ ((zX st1:Nat):Int)=0:=dF h2;have hp0:zX st1≠0:=by omega
   obtain⟨_,ho2,ho5,hst⟩:=zif hp0;refine⟨zX st1,rfl,by omega,?_⟩;have hsa:=za1 hY.p.glob (k:=zX st1) (by omega);rw [hst] at hsa;refine⟨_,by rw [Gd];exact hsa,?_⟩;refine biE (fun h3=>?_) fun h3=>?_
   ·have h3:((zX st1-1:Nat):Int)<(least:Int):=dT h3;exact stop (.inr (by omega))
   ·have h3:¬ ((zX st1-1:Nat):Int)<(least:Int):=dF h3;exact⟨(),(cvE rfl rfl),hp0,by omega,rfl⟩
  rintro _ _ ⟨hp0,hnl,rfl⟩;obtain⟨hlen1,ho2,ho5,hst⟩:=zif hp0;rw [Gw (by rintro (h | h);exact hp0 h;exact hnl h)] at hR;rcases hne:jf (zr s) st1 with ⟨b,st2⟩;rw [hne] at hR;refine⟨Unit,fun _=>⟨[(0,At0 g),(1,i64 (least:Nat)),(4,At0 w.heap.size),(6,At0 tb),(8,u8n (zX st1))],[]⟩,fun _ N=>b=true/\SimB w g l c s st2 tb t q cap N/\KidsT (fun b=>w.heap.size<b/\b≠tb) N q t.kids,?_,?_⟩
  ·refine cmo (zgS hY.p) ?_;rw [hne];rintro e N ⟨rfl,hN,gN⟩;have hYN:=hY.grown hN gN;have:=hY.g;refine biE (fun h4=>?_) fun h4=>?_
   ·have h4:(!b)=true:=h4;have h4:b=false:=(by simpa using h4);subst h4;exact⟨zd zT none 0,rfl,hYN.ans.none hR⟩
   ·have h4:(!b)=false:=h4;exact⟨(),(cvE rfl rfl),by simpa using h4,hYN,hk.by fun b cs ty fr hb hc=>gN.block b (hlt hc) (by simp;omega)⟩
  have hon:b=true->st1.tok.at_+1<=st2.tok.at_:=fun hb=>by subst hb;exact zmM hne hlen1
  clear hY hk;rintro _ N ⟨rfl,hN,hk⟩;have hon:=hon rfl;dsimp only at hR;rcases htm:termP (zr s) f' (zX st1) st2 with ⟨r2,st3⟩;rw [htm] at hR;have hm2:=(zaZ (s:=s) f').1 (zX st1) st2;rw [htm] at hm2;have hlx:=hlt hN.x;refine⟨Nat×Trm×OA×Nat,fun y=>⟨[(0,At0 g),(1,i64 (least:Nat)),(4,At0 w.heap.size),(6,At0 tb),(7,.bool r2.isSome),(8,u8n (zX st1)),(9,At0 y.1)],[]⟩,fun y P=>SimB w g l c s st3 tb t q cap P/\KidsT (fun b=>w.heap.size<b/\b≠tb) P q t.kids /\
   P.heap[y.1]?=some (.cells (zd y.2.1 y.2.2.1 y.2.2.2).toArray 24 (0,0))/\∀ x,r2=some x->x=y.2.1/\y.2.1.name.length<=8192/\KidsT (fun b=>w.heap.size<b/\b≠tb) P y.2.2.1 y.2.1.kids,?_,?_⟩
  ·obtain⟨M,hM⟩:=nm (N.alloc (.cells (zd zT none 0).toArray 24));have bM:Bw N M:=by rw [hM];exact zba _ _
   have fm:M.heap[N.heap.size]?=some (.cells (zd zT none 0).toArray 24 (0,0)):=by rw [hM];exact zA N _
   have sM:M.heap.size=N.heap.size+1:=by rw [hM];exact wz _ _
   have hNM:=hN.below bM;have hkM:=hk.kept bM;refine⟨zX st1,rfl,by omega,?_⟩;have hsa:=za1 hNM.p.glob (k:=zX st1) (by omega);rw [hst,hM] at hsa;refine⟨_,by rw [Gd];exact hsa,?_⟩;refine⟨((zX st1:Nat):Int),(zi (by omega)).trans (by omega),?_⟩;have hcall:=hT f' (by omega) (zX st1) st2 M ho5 hNM.p (by omega);rw [htm,hM] at hcall;refine cmo hcall ?_;rw [<- hM];rintro e P ⟨u,p,cp,rfl,hku,hP,gP⟩;dsimp only at hku hP;have hgw:=hN.g;have hP2:=hNM.grown hP gP;have fmP:=(gP.block _ (hlt fm) (by have:=hN.lt;simp;omega)).trans fm;have sP:=gP.size;refine zfb (t:=u) (q:=p) (cap:=cp) (by have:=hN.lt;omega) fmP rfl hP hP2.o hgw fun O hO gO fO oO sO=>?_;have hlt9:=hN.lt;refine⟨(N.heap.size,u,p,cp),(cvE rfl rfl),⟨hO,(oO _ (by omega)).trans hP2.r,(oO _ (by omega)).trans hP2.x,gO,hlt9,hgw⟩,?_,fO,fun x hx=>?_⟩
   ·have k1:KidsT (fun b=>(w.heap.size<b/\b≠tb)/\b<N.heap.size) N q t.kids:=hk.there;refine (k1.by fun b cs ty fr hb hc=>?_).weak fun b hb=>hb.1;rw [oO b (by omega),gP.block b (by omega) (by simp;omega),bM.block b hb.2]
   ·obtain⟨e1,e2,e3⟩:=hku x hx;refine⟨e1,e2,(e3.by fun b cs ty fr hb hc=>oO b (by omega)).weak fun b hb=>by omega⟩
  clear hN hk;rintro⟨rb2,u,p,cp⟩ O ⟨hO,hkt,fO,hku⟩;dsimp only at fO hku ⊢;refine⟨_,rfl,za hO.x,hlt hO.x,_,rfl,za fO,hlt fO,⟨by decide,by decide,rfl⟩,zd t q cap++zd u p cp,rfl,zd (.mk (UInt8.ofNat (zX st1)) [] [t,u]) (some ⟨O.heap.size,0,none⟩) 2,?_,?_⟩
  ·show some [u8n (zX st1),zn [],.slice (some ⟨O.heap.size,0,none⟩) 2 2]=_;rw [zoy (by omega)];rfl
  have hlo:=hlt hO.x;have bN:=zba O (.cells (zd t q cap++zd u p cp).toArray 24);have fnb:=zA O (.cells (zd t q cap++zd u p cp).toArray 24);refine (hO.below bN).store fun Z hZ oZ=>⟨(.mk (UInt8.ofNat (zX st1)) [] [t,u],some ⟨O.heap.size,0,none⟩,2,r2.isSome,st3,f'),(cvE rfl rfl),⟨hZ,by dsimp only;omega,fun hb=>?_,fun hb=>?_⟩,?_⟩
  ·cases r2 with
   | none=>cases hb
   | some t2 =>
    obtain⟨e1,e2,e3⟩:=hku t2 rfl;have hat:=hm2.1;have:=hO.lt;refine⟨by show ([]:Bs).length<=_;decide,.two (q:=q) (cap:=cap) (p:=p) (cp:=cp) ⟨by omega,by omega⟩ ?_ (by omega) ?_ (by omega) ?_,by rw [hR,<- e1],by dsimp only at hat ⊢;omega⟩
    ·exact za ((oZ _ (by omega)).trans fnb)
    ·exact (hkt.kept bN).by fun b cs ty fr hb hc=>oZ b hb.2
    ·exact (e3.kept bN).by fun b cs ty fr hb hc=>oZ b hb.2
  ·cases r2 with
   | none=>exact hR
   | some t2=>cases hb
  ·show (if r2.isSome then f'+1 else 0)<f'+1+1
   split <;> omega
 ·have ho:ok=false:=ho;subst ho;have hR:=hno rfl;exact⟨zd zT none 0,rfl,hY.ans.none hR⟩
theorem zjJ:∀ f,zk1 g l c s f:=fun f=>by
 induction f using Nat.strongRecOn with
 | ind f ih =>
  match f,ih with
  | 0,_=>exact fun least st w _ _ hf=>Gy hf (by omega)
  | 1,_=>exact fun least st w _ _ hf=>Gy hf (by omega)
  | 2,_=>exact fun least st w _ _ hf=>Gy hf (by omega)
  | n+3,ih=>exact zqU ih
end
structure Oth (g l c:Nat) (w w':Wd):Prop where
 os:w'.os=w.os
 tape:w'.tape=w.tape
 output:w'.output=w.output
 size:w.heap.size<=w'.heap.size
 block:∀ j,j<w.heap.size->j≠g->j≠l->j≠c->w'.heap[j]?=w.heap[j]?
def zz (k:Nat) (nq:Bs) (t:Trm) (q:OA) (cap:Nat):List Value:=u8n k::zn nq::zd t q cap
def zqA (g l c:Nat) (s:Bs) (w:Wd) (r:Option LineD×PS) (e:Ending) (w':Wd):Prop :=
 ∃ (k:Nat) (nq:Bs) (t:Trm) (q:OA) (cap:Nat),e = .returned (.tuple #[.agg (zz k nq t q cap).toArray,.bool r.1.isSome]) /\
  (∀ x,r.1=some x->x=⟨k,nq,t⟩/\k<=3/\nq.length<=8192/\t.name.length<=8192/\KidsT (fun b=>w.heap.size<=b) w' q t.kids)/\ParB g l c s r.2 w'/\Oth g l c w w'
section
variable {g l c:Nat} {s:Bs} {st:PS} {w w2 w3 X:Wd}
theorem Oth.of_grown (h:w.grownBy w2 (some g)):Oth g l c w w2:=⟨h.os,h.tape,h.output,h.size,fun j hj h1 _ _=>h.block j hj (by simp;omega)⟩
theorem Oth.of_below (h:Bw w w2):Oth g l c w w2:=⟨h.os,h.tape,h.output,h.size,fun j hj _ _ _=>h.block j hj⟩
theorem Oth.trans (h:Oth g l c w w2) (k:Oth g l c w2 w3):Oth g l c w w3 :=
 ⟨k.os.trans h.os,k.tape.trans h.tape,k.output.trans h.output,UT h.size k.size,fun j hj h1 h2 h3=>(k.block j (nL hj h.size) h1 h2 h3).trans (h.block j hj h1 h2 h3)⟩
theorem Oth.then (h:Oth g l c w w2) (k:Below w.heap.size w2 w3):Oth g l c w w3 :=
 ⟨k.os.trans h.os,k.tape.trans h.tape,k.output.trans h.output,UT h.size k.size,fun j hj h1 h2 h3=>(k.block j hj).trans (h.block j hj h1 h2 h3)⟩
theorem zeq (f:Bs->Bool) (nq:Bs):(fun q'=>if q'=nq then some (Value.bool true) else zeL f q')=zeL (za3 f nq):=by
 funext q;unfold zeL za3;by_cases h:q=nq
 ·rw [Gx h,Ut h];rfl
 ·rw [Gw h,Uj h];rfl
theorem ParB.other (h:ParB g l c s st w) {m:Nat} (hb:w.grownBy w2 (some m)) (hm:m≠g) (ho:3<m) {st':PS} (e1:st'.tok=st.tok) (e2:st'.nodes=st.nodes) (e3:st'.deep=st.deep) (e4:st'.e=st.e)
  (hl:MapF zbq w2 l (zeL st'.lets)) (hc:MapF zbq w2 c (zeL st'.checks)):ParB g l c s st' w2:=by
 refine⟨?_,hl,hc,h.ord,h.glob.grown ho hb,h.len,by rw [e1];exact h.pos,by rw [e2];exact h.nod,by rw [e3];exact h.dep⟩;rw [hb.block g h.lt (by simp;omega),h.f];unfold zbC;rw [e1,e2,e3,e4]
theorem ParB.setL (h:ParB g l c s st w) (nq:Bs) {K:Wd->Prop} (k:∀ Y,ParB g l c s { st with lets:=za3 st.lets nq } Y->w.grownBy Y (some l)->K Y) :
  SatR ((Instr.mapUpdate 105 (.map (some l)) (zn nq) (.bool true)).run PG w) fun _ w'=>K w':=by
 obtain⟨o,hr,hm⟩:=jN zjL Tryz.underlying105 h.lm nq (.bool true);have og:=h.ord;have gr:=zdz w l o;refine SatR.mk hr (k _ (h.other gr (by omega) og.1 rfl rfl rfl rfl (by rw [zeq] at hm;exact hm) (h.cm.same (gr.block c (jX h.cm) (by simp;omega)))) gr)
theorem ParB.setC (h:ParB g l c s st w) (nq:Bs) {K:Wd->Prop} (k:∀ Y,ParB g l c s { st with checks:=za3 st.checks nq } Y->w.grownBy Y (some c)->K Y) :
  SatR ((Instr.mapUpdate 105 (.map (some c)) (zn nq) (.bool true)).run PG w) fun _ w'=>K w':=by
 obtain⟨o,hr,hm⟩:=jN zjL Tryz.underlying105 h.cm nq (.bool true);have og:=h.ord;have gr:=zdz w c o;refine SatR.mk hr (k _ (h.other gr (by omega) (by omega) rfl rfl rfl rfl (h.lm.same (gr.block l (jX h.lm) (by simp;omega))) (by rw [zeq] at hm;exact hm)) gr)
structure LinB (w:Wd) (g l c:Nat) (k:Nat) (nq:Bs) (t:Trm) (q:OA) (cap:Nat) (Y:Wd):Prop where
 p:Y.heap[w.heap.size]?=some (.cells #[At0 g] 132 (0,0))
 r:Y.heap[w.heap.size+1]?=some (.cells (zz 0 [] zT none 0).toArray 49 (0,0))
 x:Y.heap[w.heap.size+2]?=some (.cells (zz k nq t q cap).toArray 49 (0,0))
 o:Oth g l c w Y
theorem LinB.grown {k:Nat} {nq:Bs} {t:Trm} {q:OA} {cap m:Nat} {Y Z:Wd} (h:LinB w g l c k nq t q cap Y) (hm:m=g\/m=l\/m=c) (hg:m<w.heap.size) (hb:Y.grownBy Z (some m)):LinB w g l c k nq t q cap Z:=by
 have sm:∀ {j:Nat} {ob:Obj},w.heap.size<=j->Y.heap[j]?=some ob->Z.heap[j]?=some ob:=fun {j ob} hj hk=>(hb.block j (hlt hk) (by simp;omega)).trans hk;refine⟨sm (Gc _) h.p,sm (by omega) h.r,sm (by omega) h.x,h.o.trans ⟨hb.os,hb.tape,hb.output,hb.size,fun j hj h1 h2 h3=>hb.block j hj (by simp;omega)⟩⟩
theorem LinB.below {k:Nat} {nq:Bs} {t:Trm} {q:OA} {cap:Nat} {Y Z:Wd} (h:LinB w g l c k nq t q cap Y) (hb:Bw Y Z):LinB w g l c k nq t q cap Z :=
 ⟨zb hb h.p,zb hb h.r,zb hb h.x,h.o.trans (.of_below hb)⟩
theorem LinB.store {k:Nat} {nq:Bs} {t:Trm} {q:OA} {cap:Nat} {Y:Wd} (h:LinB w g l c k nq t q cap Y) (hY:ParB g l c s st Y) (hg:g<w.heap.size) {k':Nat} {nq':Bs} {t':Trm} {q':OA} {cap':Nat} {K:Wd->Prop}
  {Te:TypeId} {o:Nat} {v:Value} {iT:TI} (hT:TIok PG Te iT) (hv:v.cells.size=iT.size) (ho:o+v.cells.size<=5) (h1:v.cells.toList.all Value.oneCell'=true)
  (e:(zz k nq t q cap).take o++v.cells.toList++(zz k nq t q cap).drop (o+v.cells.size)=zz k' nq' t' q' cap')
  (kk:∀ Z,ParB g l c s st Z->LinB w g l c k' nq' t' q' cap' Z->(∀ j,j≠w.heap.size+2->Z.heap[j]?=Y.heap[j]?)->Z.heap.size=Y.heap.size->K Z) :
  SatR ((storeVar Te ⟨w.heap.size+2,o,none⟩ v).run PG Y) fun _ w'=>K w':=by
 refine jj hT h.x (o:=o) (v:=v) hv (by show o+v.cells.size<=5;exact ho) h1 fun Z fZ gZ sZ=>?_;have sm:∀ j,j≠w.heap.size+2->Z.heap[j]?=Y.heap[j]?:=fun j hj=>by
  by_cases hl:j<Y.heap.size
  ·exact gZ.block j hl (by simp;omega)
  ·rw [Array.getElem?_eq_none (by omega),Array.getElem?_eq_none (by omega)]
 have bZ:Below (g+1) Y Z:=⟨gZ.os,gZ.tape,gZ.output,gZ.size,fun j hj=>sm j (by omega)⟩;have bW:Below w.heap.size Y Z:=⟨gZ.os,gZ.tape,gZ.output,gZ.size,fun j hj=>sm j (by omega)⟩;refine kk Z (hY.upto bZ) ⟨(sm _ (by omega)).trans h.p,(sm _ (by omega)).trans h.r,?_,h.o.then bW⟩ sm sZ;rw [fZ];have:(zz k nq t q cap).toArray.toList=zz k nq t q cap:=rfl;rw [this,e]
theorem LinB.fin {k:Nat} {nq:Bs} {t:Trm} {q:OA} {cap:Nat} {Y:Wd} (h:LinB w g l c k nq t q cap Y) (hY:ParB g l c s st Y) (hg:g<w.heap.size) {R:Option LineD×PS} {ok:Bool} {k':Nat} {nq':Bs} {t':Trm} {q':OA} {cap':Nat} (e1:R.1.isSome=ok) (e2:R.2=st)
  (e3:∀ x,R.1=some x->x=⟨k',nq',t'⟩/\k'<=3/\nq'.length<=8192/\t'.name.length<=8192/\KidsT (fun b=>w.heap.size+2<b) Y q' t'.kids) :
  SatR ((storeVar 49 ⟨w.heap.size+1,0,none⟩ (.agg (zz k' nq' t' q' cap').toArray)).run PG Y) fun _ w'=>∃ us:List Value,us.length=5/\zo w' ⟨w.heap.size+1,0,none⟩ us/\zqA g l c s w R (.returned (jI [.agg us.toArray,.bool ok])) w':=by
 refine zy (v := .agg (zz k' nq' t' q' cap').toArray) k49 h.r rfl rfl rfl ?_;have b1:=zl (B:=w.heap.size) (Gh _ Y) (Nat.le_succ w.heap.size) (zz k' nq' t' q' cap').toArray;have b2:=zl (B:=g+1) (Gh _ Y) (by omega:g+1<=w.heap.size+1) (zz k' nq' t' q' cap').toArray;refine⟨zz k' nq' t' q' cap',rfl,za (zq h.r),k',nq',t',q',cap',by rw [e1];rfl,fun x hx=>?_,by rw [e2];exact hY.upto b2,h.o.then b1⟩;obtain⟨h1,h2,h3,h4,h5⟩:=e3 x hx;exact⟨h1,h2,h3,h4,(h5.by fun b cs ty fr hb hc=>zt (by omega)).weak fun b hb=>by omega⟩
end
end Go.Proofs.YtnadlhpkpnfmbaaGreatDoor
