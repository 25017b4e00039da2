/- Contracts of functions, and plain facts, for the law that the last text of this claim proves. -/
import Derived.Test.YtkpaomeeknegpaaGreatDoorF6
import Derived.Test.YtkpaomeeknegpaaGreatDoorF5
import Derived.Test.YtkpaomeeknegpaaGreatDoorF4
import Derived.Test.YtkpaomeeknegpaaGreatDoorF2
import Derived.Test.YtkpaomeeknegpaaGreatDoorF3
import Derived.Test.YtkpaomeeknegpaaGreatDoorF1
import Derived.LaidEql
set_option linter.unusedSimpArgs false
set_option linter.unusedVariables false
namespace Go.Proofs.YtkpaomeeknegpaaGreatDoor
open Go.Vc Go.RowKit Go.Sei
section
variable {w:Wd}
theorem ztU {q:OA} {cap:Nat} {l:List InsD} (hl:SlR zA w q l) (hn:l.length<=1000000) :
  Calls PG 27 #[.slice q l.length cap] w fun e w'=>(∃ b:Bool,e = .returned (.bool b))/\Bw w w':=by
 refine qk 35 [.slice q l.length cap] (.s .p (.s .p (.c .p .p))) Tryz.func27 ?_;refine⟨Nat,fun n=>⟨[(0,.slice q l.length cap),(3,i64 (n:Nat))],[]⟩,fun n X=>Bw w X,?_,?_⟩
 ·refine⟨Nat×Nat,fun s=>⟨[(0,.slice q l.length cap),(3,i64 (s.2:Nat)),(6,.slice q l.length cap),(7,i64 l.length),(8,i64 (s.1:Nat))],[]⟩,fun s X=>(s.1<=l.length/\s.2<=s.1)/\Bw w X,fun s=>l.length-s.1,(0,0),
   (cvE rfl rfl),⟨⟨UU _,UR _⟩,UW _ _⟩,?_⟩
  rintro⟨k,n⟩ X ⟨⟨hk,hnk⟩,hbX⟩;dsimp only at hk hnk ⊢;refine biE (fun hc=>?_) fun hc=>?_
  ·have hc:(k:Int)<(l.length:Int):=dT hc;have hkl:k<l.length:=by omega
   obtain⟨bp,op,rfl,hlp,hat⟩:=hl.at hkl;refine⟨k,rfl,hkl,zA.enc l[k],zA.len _,zr hbX (hat k hkl),nL hlp hbX.size,zo (X:=X) (v := .agg (zA.enc l[k]).toArray) k55 (zA.len _) rfl (Qg.2 fun u hu=>zA.one _ u hu) fun Y hbY fY sY=>?_⟩;have fY:Y.heap[X.heap.size]?=some (.cells (zA.enc l[k]).toArray 55 (0,0)):=fY;have c0:Y.cell? ⟨X.heap.size,0+0,none⟩=some (u8 l[k].op):=zc (za fY) (i:=0) rfl;have hwY:=zst hbX hbY;have fin1:(k+1<=l.length/\n+1<=k+1)/\Bw w Y:=⟨⟨hkl,by omega⟩,hwY⟩;have fin0:(k+1<=l.length/\n<=k+1)/\Bw w Y:=⟨⟨hkl,by omega⟩,hwY⟩;have lt:l.length-(k+1)<l.length-k:=by omega
   refine⟨_,c0,biE (fun h1=>?_) fun h1=>?_⟩
   ·exact brT (nxI (by omega) (nxI (by omega) ⟨(k+1,n+1),(cvE rfl rfl),fin1,lt⟩))
   ·refine⟨_,c0,biE (fun h2=>?_) fun h2=>?_⟩
    ·refine⟨_,c0,biE (fun h3=>?_) fun h3=>?_⟩
     ·exact nxI (by omega) (nxI (by omega) ⟨(k+1,n+1),(cvE rfl rfl),fin1,lt⟩)
     ·exact nxI (by omega) ⟨(k+1,n),(cvE rfl rfl),fin0,lt⟩
    ·exact brF (nxI (by omega) ⟨(k+1,n),(cvE rfl rfl),fin0,lt⟩)
  ·exact⟨n,(cvE rfl rfl),hbX⟩
 rintro n X hbX;refine biE (fun h1=>?_) fun h1=>?_
 ·exact⟨⟨_,rfl⟩,hbX⟩
 ·exact⟨⟨_,rfl⟩,hbX⟩
end
section
variable {w:Wd} {B:Nat} {pc:List Value} {p:Prg}
theorem ztT (hB:B<=w.heap.size) (hP:PrgX B w pc p) :
  Calls PG 10 #[.agg pc.toArray] w fun e w'=>(∃ b:Bool,e = .returned (.bool b))/\Bw w w':=by
 refine qk 63 [.agg pc.toArray] (.c .p (.s .p (.s .p (.c .p .p)))) Tryz.func10 ?_;obtain⟨L,hL⟩:=nm (w.heap.size);have hpc:=hP.v.size;have hPl:=hP.v.len;obtain⟨q1,k1,q2,k2,q3,k3,q4,k4,hvs,_⟩:=hP.v.h;have hpc1:pc[1]?=some (.slice q1 p.locs.length k1):=by rw [hvs];rfl
 obtain⟨_,⟨p3,c3,h3,xs,hxs,zc3,hxr⟩,_⟩:=hP;have hxl:xs.length=p.threads.length:=by rw [<- hxs,QI]
 have hthr:=hPl.threads;refine⟨Unit,fun _=>⟨[(1,At0 L)],[]⟩,fun _ X=>X.heap[L]?=some (.cells pc.toArray 29 (0,0))/\Bw w X,⟨(),⟨.cons (by rw [hL];rfl) .nil,rfl⟩,by rw [hL];exact zy w _,(zba w _)⟩,?_⟩;rintro _ X ⟨f0,hbX⟩;have c3':X.cell? ⟨L,0+3,none⟩=some (.slice p3 p.threads.length c3):=zc (za f0) (i:=3) (by simpa using h3);have c1':X.cell? ⟨L,0+1,none⟩=some (.slice q1 p.locs.length k1):=zc (za f0) (i:=1) (by simpa using hpc1);refine⟨_,c3',biE (fun h1=>?_) fun h1=>?_⟩
 ·exact brT ⟨⟨_,rfl⟩,hbX⟩
 have h1:¬ (3:Int)<(p.threads.length:Int):=dF h1;refine⟨_,c1',biE (fun h2=>?_) fun h2=>?_⟩
 ·exact⟨⟨_,rfl⟩,hbX⟩
 refine⟨Nat,fun n=>⟨[(3,i64 (n:Nat))],[]⟩,fun n X=>Bw w X,?_,?_⟩
 ·refine⟨_,c3',?_⟩;refine⟨Nat×Nat,fun s=>⟨[(3,i64 (s.2:Nat)),(19,.slice p3 p.threads.length c3),(20,i64 p.threads.length),(21,i64 (s.1:Nat))],[]⟩,fun s Y=>(s.1<=p.threads.length/\s.2<=5*s.1)/\Bw w Y,fun s=>p.threads.length-s.1,(0,0),
   (cvE rfl rfl),⟨⟨UU _,UR _⟩,hbX⟩,?_⟩
  clear c3' c1' f0 hbX;rintro⟨m,n⟩ Y ⟨⟨hm,hnm⟩,hbY⟩;dsimp only at hm hnm ⊢;refine biE (fun hc=>?_) fun hc=>?_
  ·have hc:(m:Int)<(p.threads.length:Int):=dT hc;have hmt:m<p.threads.length:=by omega
   have hmx:m<xs.length:=by omega
   obtain⟨b3,o3,hp3,hb3,hat3⟩:=zdB (zc3.below (hbY.mono hB)) hmx;have hB2:b3<Y.heap.size:=nL hb3 (UI hB hbY.size);have e3:some (Value.slice p3 p.threads.length c3)=some (Value.slice (some ⟨b3,o3,none⟩) p.threads.length c3):=by rw [hp3]
   subst hp3;refine⟨m,rfl,hmt,zjR xs[m],by have:=zc (hat3 m hmx) (i:=0) (v:=zjR xs[m]) rfl;exact this,?_⟩;obtain⟨hrm,hrb⟩:=hxr _ (gM hmx);have hsl:SlR zA Y xs[m].2.1 xs[m].1:=(hrm.below (hbY.mono hB)).slr (UI hB hbY.size);obtain⟨l,hl⟩:=nm (xs[m].1);obtain⟨ql,hql⟩:=nm (xs[m].2.1);obtain⟨cl,hcl⟩:=nm (xs[m].2.2);have hv:zjR xs[m] = .slice ql l.length cl:=by rw [hl,hql,hcl];rfl
   rw [<- hl,<- hql] at hsl;rw [hv];refine biE (fun h5=>?_) fun h5=>?_
   ·exact brT ⟨⟨_,rfl⟩,hbY⟩
   have h5:¬ (5:Int)<(l.length:Int):=dF h5;have hl5:l.length<=5:=by omega
   refine cmo (ztU hsl (by omega)) ?_;rintro e Z ⟨⟨b,rfl⟩,hbZ⟩;have hwZ:=zst hbY hbZ;have hslZ:=hsl.below hbZ;refine biE (fun h6=>?_) fun h6=>?_
   ·exact⟨⟨_,rfl⟩,hwZ⟩
   refine⟨Nat×Nat,fun s=>⟨[(3,i64 (s.2:Nat)),(19,.slice (some ⟨b3,o3,none⟩) p.threads.length c3),(20,i64 p.threads.length),(21,i64 (m:Nat)),(33,.slice ql l.length cl),(34,i64 l.length),(35,i64 (s.1:Nat))],[]⟩,fun s V=>(s.1<=l.length/\s.2<=5*m+s.1)/\Bw Z V,fun s=>l.length-s.1,(0,n),
    (cvE rfl rfl),⟨⟨UU _,by show n<=5*m+0;omega⟩,UW _ _⟩,?_⟩
   rintro⟨k,n2⟩ V ⟨⟨hk,hn2⟩,hbV⟩;dsimp only at hk hn2 ⊢;refine biE (fun hc=>?_) fun hc=>?_
   ·have hc:(k:Int)<(l.length:Int):=dT hc;have hkl:k<l.length:=(by omega);obtain⟨bp,op,hqe,hlp,hat⟩:=hslZ.at hkl;subst hqe;refine⟨k,rfl,hkl,zA.enc l[k],zA.len _,zr hbV (hat k hkl),nL hlp hbV.size,zo (X:=V) (v := .agg (zA.enc l[k]).toArray) k55 (zA.len _) rfl (Qg.2 fun u hu=>zA.one _ u hu) fun U hbU fU sU=>?_⟩;have fU:U.heap[V.heap.size]?=some (.cells (zA.enc l[k]).toArray 55 (0,0)):=fU;have c0:U.cell? ⟨V.heap.size,0+0,none⟩=some (u8 l[k].op):=zc (za fU) (i:=0) rfl;have hZU:=zst hbV hbU;have fin1:(k+1<=l.length/\n2+1<=5*m+(k+1))/\Bw Z U:=⟨⟨hkl,by omega⟩,hZU⟩;have fin0:(k+1<=l.length/\n2<=5*m+(k+1))/\Bw Z U:=⟨⟨hkl,by omega⟩,hZU⟩;have lt:l.length-(k+1)<l.length-k:=(by omega);refine⟨_,c0,biE (fun h7=>?_) fun h7=>?_⟩
    ·exact brT (brT (nxI (by omega) (nxI (by omega) ⟨(k+1,n2+1),(cvE rfl rfl),fin1,lt⟩)))
    ·refine⟨_,c0,biE (fun h8=>?_) fun h8=>?_⟩
     ·exact brT (nxI (by omega) (nxI (by omega) ⟨(k+1,n2+1),(cvE rfl rfl),fin1,lt⟩))
     ·refine⟨_,c0,biE (fun h9=>?_) fun h9=>?_⟩
      ·refine⟨_,c0,biE (fun h=>?_) fun h=>?_⟩
       ·exact nxI (by omega) (nxI (by omega) ⟨(k+1,n2+1),(cvE rfl rfl),fin1,lt⟩)
       ·exact nxI (by omega) ⟨(k+1,n2),(cvE rfl rfl),fin0,lt⟩
      ·exact brF (nxI (by omega) ⟨(k+1,n2),(cvE rfl rfl),fin0,lt⟩)
   ·exact nxI (by omega) ⟨(m+1,n2),(cvE rfl rfl),⟨⟨hmt,by show n2<=5*(m+1);omega⟩,(zst hwZ hbV)⟩,zdc (by omega)⟩
  ·exact⟨n,(cvE rfl rfl),hbY⟩
 rintro n Y hbY;exact⟨⟨_,rfl⟩,hbY⟩
end
section
variable {b c:Nat} {x:ExD} {q:OA}
theorem zap {X:Wd} (fx:zI X ⟨b,0,none⟩ (exC x q c)):X.cell? ⟨b,0+0,none⟩=some (.slice q x.ev.length c):=zc fx (i:=0) rfl
end
section
variable {b c:Nat} {x:ExD} {q:OA}
theorem jD {X:Wd} (fx:ExH X b x q c) {i:Nat} (hi:i<6) {o:Nat} (ho:o=1+49*i):zI X ⟨b,0+o,none⟩ (zf ((zcY x).getD i x.po)):=by
 rw [ho];exact zfb fx hi
end
theorem zdy {r:RelD} (h:zjK r=true):zJ r.to:=by
 unfold zjK at h;rw [Qg] at h;exact fun i hi=>dT (h i (Uj.2 hi))
theorem zuD {p:Bool} (h:(!p)=false):p=true:=by simpa using h
def ztk (x:ExD):Bool:=decide (x.ev.length<=20)&&(zjK x.po&&(zjK x.rf&&(zjK x.co&&(zjK x.dt&&(zjK x.ct&&zjK x.rm)))))
theorem zrE {X:Wd} {x:ExD} {q:OA} (h:ztk x=true) (he:SlR evE X q x.ev):ExV X x q:=by
 unfold ztk at h;simp only [bAT,dE] at h;obtain⟨h1,h2,h3,h4,h5,h6,h7⟩:=h;exact⟨he,h1,zdy h2,zdy h3,zdy h4,zdy h5,zdy h6,zdy h7⟩
section
variable {r:RelD} {w:Wd}
theorem zrt {b s:Nat} (f:w.heap[b]?=some (.cells (zf r).toArray 39 (0,0))) (hr:zJ r.to) (hs:s<2^64) (h48:∀ i∈els s,i<48) (hT:Tz64M w) :
  CB 89 #[At0 b,s64 s] w (s64 (zdk r.to s)):=by
 refine zF 32 [At0 b,s64 s] Tryz.func89 ?_;refine cmo (za2 hs hT) ?_;rintro e X ⟨rfl,hbX⟩;refine⟨Nat×Nat,fun q=>⟨[(0,At0 b),(1,s64 q.2),(5,s64 q.1),(6,i64 ((els q.2).headD 0:Nat)),(7,.bool (!(els q.2).isEmpty))],[]⟩,
  fun q Y=>zdk r.to s=(els q.2).foldl (fun t a=>t|||r.to a) q.1/\(q.1<2^64/\q.2<2^64/\∀ i∈els q.2,i<48)/\Bw w Y,fun q=>q.2,(0,s),
  (cvE rfl rfl),⟨rfl,⟨(by decide:0<2^64),hs,h48⟩,hbX⟩,?_⟩
 clear hbX X;rintro⟨t,q⟩ X ⟨he,⟨ht,hq,h48⟩,hbX⟩;dsimp only at he ht hq h48 ⊢;refine biE (fun hc=>?_) fun hc=>?_
 ·have h0:=zeV hq hc;obtain⟨e1,e2,_,e3⟩:=jO h0 hq;have hd:=(zbQ h0 hq).1;have hc48:ctz q<48:=h48 _ (by rw [e1];exact Kx);rw [hd];have fX:=zb hbX f;refine⟨ctz q,rfl,hc48,_,zaF fX hc48,_,zaf ht (hr _ hc48),((q-1:Nat):Int),(w64 (a:=(q:Int)-1) (by omega)).trans (by omega),((qp q:Nat):Int),jY (a:=q) (b:=q-1) hq (by omega),cmo (za2 (s:=qp q) (by omega) (hT.below hbX)) ?_⟩;rintro e Y ⟨rfl,hbY⟩;refine⟨(t|||r.to (ctz q),qp q),(cvE rfl rfl),⟨?_,⟨KV ht (hr _ hc48),by omega,fun i hi=>h48 i (by rw [e1];exact JW _ hi)⟩,(zst hbX hbY)⟩,e2⟩;rw [he,e1];rfl
 ·have hc:(els q).isEmpty=true:=by simpa using hc
  have:=zcQ hq hc;subst this;refine⟨?_,hbX⟩;rw [he,zah];rfl
theorem zfy {ra rb:RelD} {ba bb g:Nat} {caps:Array Value} {row:Nat->Nat} (fa:w.heap[ba]?=some (.cells (zf ra).toArray 39 (0,0))) (fb:w.heap[bb]?=some (.cells (zf rb).toArray 39 (0,0)))
  (ha:zJ ra.to) (hb:zJ rb.to) (hok:jP (sg 0) g=true)
  (zc3:ra.n=rb.n->okR ra=true->okR rb=true->∀ i X,i<ra.n.toNat->Bw w X->Calls PG g (i64 (i:Nat)::caps.toList).toArray X fun e Y=>e = .returned (s64 (row i))/\Bw X Y) :
  CB 35 #[At0 ba,At0 bb,.func (.func g) #[] caps] w (.tuple #[.agg (zf (comb ra rb row).1).toArray,i64 (comb ra rb row).2]):=by
 refine qk 38 [At0 ba,At0 bb,.func (.func g) #[] caps] (.c .p (.s .p .p)) Tryz.func35 ?_;obtain⟨L,hL⟩:=nm (w.heap.size);refine⟨Unit,fun _=>⟨[(0,At0 ba),(1,At0 bb),(2,.func (.func g) #[] caps),(6,At0 L)],[]⟩,fun _ X=>X.heap[L]?=some (.cells (zf zB).toArray 39 (0,0))/\Bw w X,⟨(),⟨.cons rfl (.cons rfl (.cons rfl (.cons (by rw [hL];rfl) .nil))),rfl⟩,by rw [hL];exact zy w _,(zba w _)⟩,?_⟩;rintro _ X ⟨f0,hbX⟩;have hd:Bw X X.drew:=(UW _ X).drew;have hbD:=zst hbX hd;have no:∀ {Y:Wd},Y.heap[L]?=some (.cells (zf zB).toArray 39 (0,0))->Bw w Y->(ra.n=rb.n&&(okR ra&&okR rb))=false->∀ {K:Wd->Prop},(∀ Z,Z.heap[L]?=some (.cells (zf (comb ra rb row).1).toArray 39 (0,0))->(comb ra rb row).2=2->Bw w Z->K Z)->SatR ((storeVar 39 ⟨L,0,none⟩ (.agg (zf zB).toArray)).run PG Y) fun _ w'=>K w' :=
  fun {Y} f b h {K} k=>by
   have e:comb ra rb row=(zB,2):=by unfold comb;rw [h];rfl
   exact zt (v := .agg (zf zB).toArray) k39 f rfl rfl (zE _) (k _ (by rw [e];exact zn f) (by rw [e]) (zl b (by omega) _))
 refine DrawE.ord [] [0,1,2,3,4,5,6,7,8,9,10,11,12,13,14,15,16,17,18,19,20,21,22] (by kernel_rfl) ?_;have hz:∀ {Y:Wd},Bw w Y->∀ {K:Value->Prop},K (.agg (zf zB).toArray)->K (.agg (zf zB).toArray):=fun _ _ h=>h;refine⟨_,zc (za (zb hbD fa)) (i:=0) rfl,_,zc (za (zb hbD fb)) (i:=0) rfl,biE (fun h=>?_) fun h=>?_⟩
 ·have h:ra.n≠rb.n:=fun e=>by
   have h:(!decide (ra.n=rb.n))=true:=h;rw [Un e] at h;cases h
  refine brT (brT ⟨zf zB,rfl,no (hdr f0) hbD (by rw [Uc h];rfl) fun Z fZ e2 bZ=>⟨zf (comb ra rb row).1,zg _,za fZ,?_,bZ⟩⟩);rw [e2];rfl
 have h:ra.n=rb.n:=by
  have h:(!decide (ra.n=rb.n))=false:=h;simpa using h
 refine⟨zf ra,zg _,za (zb hbD fa),hlt (zb hbD fa),cmo (jV ha) ?_⟩;rintro e Y ⟨rfl,hbY⟩;refine⟨hbY,?_⟩;have hbwY:=zst hbD hbY;have f0Y:=zb hbY (hdr f0);refine biE (fun h1=>?_) fun h1=>?_
 ·have h1:okR ra=false:=by
   have h1:(!okR ra)=true:=h1;simpa using h1
  refine brT ⟨zf zB,rfl,no f0Y hbwY (by rw [h1,Ue,Ud]) fun Z fZ e2 bZ=>⟨zf (comb ra rb row).1,zg _,za fZ,?_,bZ⟩⟩;rw [e2];rfl
 have h1:okR ra=true:=by
  have h1:(!okR ra)=false:=h1;simpa using h1
 refine⟨zf rb,zg _,za (zb hbwY fb),hlt (zb hbwY fb),cmo (jV hb) ?_⟩;rintro e V ⟨rfl,hbV⟩;refine⟨hbV,?_⟩;have hbwV:=zst hbwY hbV;have f0V:=zb hbV f0Y;refine biE (fun h2=>?_) fun h2=>?_
 ·have h2:okR rb=false:=by
   have h2:(!okR rb)=true:=h2;simpa using h2
  refine⟨zf zB,rfl,no f0V hbwV (by rw [h2,Ud,Ud]) fun Z fZ e2 bZ=>⟨zf (comb ra rb row).1,zg _,za fZ,?_,bZ⟩⟩;rw [e2];rfl
 have h2:okR rb=true:=by
  have h2:(!okR rb)=false:=h2;simpa using h2
 obtain⟨p0,p48,_⟩:=jm h1;have e:comb ra rb row=(jQ ra.n.toNat row,0):=by unfold comb;rw [h1,h2,Un h];rfl
 rw [e];have hn:ra.n=(ra.n.toNat:Int):=by omega
 refine⟨i64 (ra.n.toNat:Nat),by rw [<- hn];exact zc (za (zb hbwV fa)) (i:=0) rfl,cmo (zjx (w:=V) (n:=ra.n.toNat) (by omega) hok (fun i Z hi hbZ=>zc3 h h1 h2 i Z hi ((zst hbwV hbZ)))) ?_⟩;rintro e Z ⟨rfl,hbZ⟩;have f0Z:=zb hbZ f0V;exact zt (v := .agg (zf (jQ ra.n.toNat row)).toArray) k39 f0Z rfl rfl (zE _) ⟨zf (jQ ra.n.toNat row),zg _,za (zn f0Z),rfl,zl ((zst hbwV hbZ)) (by omega) _⟩
end
section
variable {ra rb:RelD} {w:Wd}
theorem zqA {ba bb i:Nat} (fa:w.heap[ba]?=some (.cells (zf ra).toArray 39 (0,0))) (fb:w.heap[bb]?=some (.cells (zf rb).toArray 39 (0,0))) (ha:zJ ra.to) (hb:zJ rb.to) (hi:i<48) :
  CB 36 (i64 (i:Nat)::[At0 ba,At0 bb]).toArray w (s64 (ra.to i|||rb.to i)):=by
 refine zF 14 (i64 (i:Nat)::[At0 ba,At0 bb]) Tryz.func36 ?_;refine DrawE.ord [] [0,1,2,3,4,5,6,7,8,9] (by kernel_rfl) ?_;have hd:Bw w w.drew:=(UW _ w).drew;exact⟨i,rfl,hi,_,zaF (hdr fa) hi,i,rfl,hi,_,zaF (hdr fb) hi,_,zaf (ha i hi) (hb i hi),rfl,hd⟩
theorem zsk (ha:zJ ra.to) (hb:zJ rb.to):CB 16 #[.agg (zf ra).toArray,.agg (zf rb).toArray] w (.tuple #[.agg (zf (zaS ra rb).1).toArray,i64 (zaS ra rb).2]):=by
 refine qk 10 [.agg (zf ra).toArray,.agg (zf rb).toArray] (.c .p .p) Tryz.func16 ?_;obtain⟨L,hL⟩:=nm (w.heap.size);refine⟨Unit,fun _=>⟨[(2,At0 L),(3,At0 (L+1)),(4,At0 (L+2)),(5,i64 0)],[]⟩,fun _ X=>X.heap[L]?=some (.cells (zf ra).toArray 39 (0,0))/\X.heap[L+1]?=some (.cells (zf rb).toArray 39 (0,0))/\X.heap[L+2]?=some (.cells (zf zB).toArray 39 (0,0))/\Bw w X,?_,?_⟩
 ·have s1:=wz w (.cells (zf ra).toArray 39);have s2:=wz (w.alloc (.cells (zf ra).toArray 39)) (.cells (zf rb).toArray 39);have h2:=zy (w.alloc (.cells (zf ra).toArray 39)) (.cells (zf rb).toArray 39);have h3:=zy ((w.alloc (.cells (zf ra).toArray 39)).alloc (.cells (zf rb).toArray 39)) (.cells (zf zB).toArray 39);rw [s1] at s2 h2;rw [s2] at h3;refine⟨(),⟨.cons (by rw [hL];rfl) (.cons (by rw [hL,<- s1];rfl) (.cons (by rw [hL,<- s2];rfl) (.cons rfl .nil))),rfl⟩,?_,?_,?_,?_⟩
  ·rw [hL];exact qJ _ (qJ _ (zy w _))
  ·rw [hL];exact qJ _ h2
  ·rw [hL];exact h3
  ·exact (((zba w _)).alloc (by simp) _).alloc (by simp;omega) _
 rintro _ X ⟨f0,f1,f2,hbX⟩;refine cmo (zfy (row:=fun i=>ra.to i|||rb.to i) f0 f1 ha hb (by kernel_rfl) (fun e h1 h2 i Y hi hbY=>?_)) ?_
 ·have h48:=(jm h1).2.1;exact zqA (zb hbY f0) (zb hbY f1) ha hb (by omega)
 rintro e Y ⟨rfl,hbY⟩;exact zt (v := .agg (zf (zaS ra rb).1).toArray) k39 (zb hbY f2) rfl rfl (zE _) ⟨zf (zaS ra rb).1,zg _,za (zn (zb hbY f2)),rfl,zl ((zst hbX hbY)) (by omega) _⟩
theorem zss {ba bb i:Nat} (fa:w.heap[ba]?=some (.cells (zf ra).toArray 39 (0,0))) (fb:w.heap[bb]?=some (.cells (zf rb).toArray 39 (0,0))) (ha:zJ ra.to) (hb:zJ rb.to) (hi:i<48) :
  CB 90 (i64 (i:Nat)::[At0 ba,At0 bb]).toArray w (s64 (ra.to i&&&rb.to i)):=by
 refine zF 14 (i64 (i:Nat)::[At0 ba,At0 bb]) Tryz.func90 ?_;refine DrawE.ord [] [0,1,2,3,4,5,6,7,8,9] (by kernel_rfl) ?_;have hd:Bw w w.drew:=(UW _ w).drew;exact⟨i,rfl,hi,_,zaF (hdr fa) hi,i,rfl,hi,_,zaF (hdr fb) hi,_,jY (ha i hi) (hb i hi),rfl,hd⟩
theorem zqM (ha:zJ ra.to) (hb:zJ rb.to):CB 54 #[.agg (zf ra).toArray,.agg (zf rb).toArray] w (.tuple #[.agg (zf (za5 ra rb).1).toArray,i64 (za5 ra rb).2]):=by
 refine qk 10 [.agg (zf ra).toArray,.agg (zf rb).toArray] (.c .p .p) Tryz.func54 ?_;obtain⟨L,hL⟩:=nm (w.heap.size);refine⟨Unit,fun _=>⟨[(2,At0 L),(3,At0 (L+1)),(4,At0 (L+2)),(5,i64 0)],[]⟩,fun _ X=>X.heap[L]?=some (.cells (zf ra).toArray 39 (0,0))/\X.heap[L+1]?=some (.cells (zf rb).toArray 39 (0,0))/\X.heap[L+2]?=some (.cells (zf zB).toArray 39 (0,0))/\Bw w X,?_,?_⟩
 ·have s1:=wz w (.cells (zf ra).toArray 39);have s2:=wz (w.alloc (.cells (zf ra).toArray 39)) (.cells (zf rb).toArray 39);have h2:=zy (w.alloc (.cells (zf ra).toArray 39)) (.cells (zf rb).toArray 39);have h3:=zy ((w.alloc (.cells (zf ra).toArray 39)).alloc (.cells (zf rb).toArray 39)) (.cells (zf zB).toArray 39);rw [s1] at s2 h2;rw [s2] at h3;refine⟨(),⟨.cons (by rw [hL];rfl) (.cons (by rw [hL,<- s1];rfl) (.cons (by rw [hL,<- s2];rfl) (.cons rfl .nil))),rfl⟩,?_,?_,?_,?_⟩
  ·rw [hL];exact qJ _ (qJ _ (zy w _))
  ·rw [hL];exact qJ _ h2
  ·rw [hL];exact h3
  ·exact (((zba w _)).alloc (by simp) _).alloc (by simp;omega) _
 rintro _ X ⟨f0,f1,f2,hbX⟩;refine cmo (zfy (row:=fun i=>ra.to i&&&rb.to i) f0 f1 ha hb (by kernel_rfl) (fun e h1 h2 i Y hi hbY=>?_)) ?_
 ·have h48:=(jm h1).2.1;exact zss (zb hbY f0) (zb hbY f1) ha hb (by omega)
 rintro e Y ⟨rfl,hbY⟩;exact zt (v := .agg (zf (za5 ra rb).1).toArray) k39 (zb hbY f2) rfl rfl (zE _) ⟨zf (za5 ra rb).1,zg _,za (zn (zb hbY f2)),rfl,zl ((zst hbX hbY)) (by omega) _⟩
theorem zsl {ba bb i:Nat} (fa:w.heap[ba]?=some (.cells (zf ra).toArray 39 (0,0))) (fb:w.heap[bb]?=some (.cells (zf rb).toArray 39 (0,0))) (ha:zJ ra.to) (hb:zJ rb.to) (hi:i<48) (h48:∀ j∈els (ra.to i),j<48) (hT:Tz64M w) :
  CB 88 (i64 (i:Nat)::[At0 bb,At0 ba]).toArray w (s64 (zdk rb.to (ra.to i))):=by
 refine zF 10 (i64 (i:Nat)::[At0 bb,At0 ba]) Tryz.func88 ?_;refine⟨i,rfl,hi,_,zaF fa hi,cmo (zrt fb hb (ha i hi) h48 hT) ?_⟩;rintro e Y ⟨rfl,hbY⟩;exact⟨rfl,hbY⟩
theorem zci (ha:zJ ra.to) (hb:zJ rb.to) (hT:Tz64M w):CB 53 #[.agg (zf ra).toArray,.agg (zf rb).toArray] w (.tuple #[.agg (zf (jk ra rb).1).toArray,i64 (jk ra rb).2]):=by
 refine qk 10 [.agg (zf ra).toArray,.agg (zf rb).toArray] (.c .p .p) Tryz.func53 ?_;obtain⟨L,hL⟩:=nm (w.heap.size);refine⟨Unit,fun _=>⟨[(2,At0 L),(3,At0 (L+1)),(4,At0 (L+2)),(5,i64 0)],[]⟩,fun _ X=>X.heap[L]?=some (.cells (zf ra).toArray 39 (0,0))/\X.heap[L+1]?=some (.cells (zf rb).toArray 39 (0,0))/\X.heap[L+2]?=some (.cells (zf zB).toArray 39 (0,0))/\Bw w X,?_,?_⟩
 ·have s1:=wz w (.cells (zf ra).toArray 39);have s2:=wz (w.alloc (.cells (zf ra).toArray 39)) (.cells (zf rb).toArray 39);have h2:=zy (w.alloc (.cells (zf ra).toArray 39)) (.cells (zf rb).toArray 39);have h3:=zy ((w.alloc (.cells (zf ra).toArray 39)).alloc (.cells (zf rb).toArray 39)) (.cells (zf zB).toArray 39);rw [s1] at s2 h2;rw [s2] at h3;refine⟨(),⟨.cons (by rw [hL];rfl) (.cons (by rw [hL,<- s1];rfl) (.cons (by rw [hL,<- s2];rfl) (.cons rfl .nil))),rfl⟩,?_,?_,?_,?_⟩
  ·rw [hL];exact qJ _ (qJ _ (zy w _))
  ·rw [hL];exact qJ _ h2
  ·rw [hL];exact h3
  ·exact (((zba w _)).alloc (by simp) _).alloc (by simp;omega) _
 rintro _ X ⟨f0,f1,f2,hbX⟩;refine cmo (zfy (row:=fun i=>zdk rb.to (ra.to i)) f0 f1 ha hb (by kernel_rfl) (fun e h1 h2 i Y hi hbY=>?_)) ?_
 ·have h48:=(jm h1).2.1;exact zsl (zb hbY f0) (zb hbY f1) ha hb (by omega) (fun j hj=>(zjd h1 ha (by omega) j hj).2) ((hT.below hbX).below hbY)
 rintro e Y ⟨rfl,hbY⟩;exact zt (v := .agg (zf (jk ra rb).1).toArray) k39 (zb hbY f2) rfl rfl (zE _) ⟨zf (jk ra rb).1,zg _,za (zn (zb hbY f2)),rfl,zl ((zst hbX hbY)) (by omega) _⟩
theorem zur {ba i s:Nat} (fa:w.heap[ba]?=some (.cells #[s64 s] 36 (0,0))) (hs:s<2^64) (hi:i<48) :
  CB 161 (i64 (i:Nat)::[At0 ba]).toArray w (s64 (s&&&2^i)):=by
 refine zF 8 (i64 (i:Nat)::[At0 ba]) Tryz.func161 ?_;exact DrawE.ord [] [0,1,2,3,4] (by kernel_rfl) ⟨_,zc (za (hdr fa)) (i:=0) rfl,by omega,_,jX (e:=i) (by omega),_,jY hs (zZ (by omega)),rfl,(UW _ w).drew⟩
theorem zuq {n s:Nat} (hn:n<=48) (hs:s<2^64):CB 119 #[i64 n,s64 s] w (.agg (zf (idR n s)).toArray):=by
 refine qk 15 [i64 n,s64 s] (.c .p (.s .p .p)) Tryz.func119 ?_;obtain⟨L,hL⟩:=nm (w.heap.size);refine⟨Unit,fun _=>⟨[(0,i64 n),(3,At0 L),(4,At0 (L+1))],[]⟩,fun _ X=>X.heap[L]?=some (.cells #[s64 s] 36 (0,0))/\X.heap[L+1]?=some (.cells (zf zB).toArray 39 (0,0))/\Bw w X,?_,?_⟩
 ·have s1:=wz w (.cells #[s64 s] 36);have h2:=zy (w.alloc (.cells #[s64 s] 36)) (.cells (zf zB).toArray 39);rw [s1] at h2;refine⟨(),⟨.cons rfl (.cons (by rw [hL];rfl) (.cons (by rw [hL,<- s1];rfl) .nil)),rfl⟩,?_,?_,?_⟩
  ·rw [hL];exact qJ _ (zy w _)
  ·rw [hL];exact h2
  ·exact ((zba w _)).alloc (by simp) _
 rintro _ X ⟨f0,f1,hbX⟩;refine brN (Uc (by omega)) (brN (Uc (by omega)) (cmo (zjx (w:=X) (n:=n) (row:=fun a=>s&&&2^a) hn (by kernel_rfl) (fun i Z hi hbZ=>zur (zb hbZ f0) hs (by omega))) ?_));rintro e Z ⟨rfl,hbZ⟩;have f1Z:=zb hbZ f1;exact zt (v := .agg (zf (idR n s)).toArray) k39 f1Z rfl rfl (zE _) ⟨zf (idR n s),zg _,za (zn f1Z),rfl,zl ((zst hbX hbZ)) (by omega) _⟩
theorem ztS (ha:zJ ra.to):CB 91 #[.agg (zf ra).toArray] w (s64 (zkI ra)):=by
 refine zF 24 [.agg (zf ra).toArray] Tryz.func91 ?_;have f0:=zy w (.cells (zf ra).toArray 39);have hb:Bw w (w.alloc (.cells (zf ra).toArray 39)):=zba w _;refine⟨zf ra,zg _,za f0,hlt f0,cmo (jV ha) ?_⟩;rintro e X ⟨rfl,hbX⟩;have hbw:=zst hb hbX;have fX:=zb hbX f0;refine biE (fun h=>?_) fun h=>?_
 ·have h:okR ra=false:=by
   have h:(!okR ra)=true:=h;simpa using h
  exact⟨by unfold zkI;rw [h];rfl,hbw⟩
 have h:okR ra=true:=by
  have h:(!okR ra)=false:=h;simpa using h
 obtain⟨p0,p48,_⟩:=jm h;obtain⟨n,hn⟩:∃ n:Nat,ra.n=n:=⟨ra.n.toNat,by omega⟩;refine⟨i64 n,by rw [<- hn];exact zc (za fX) (i:=0) rfl,?_⟩;have e0:zkI ra=(List.range n).foldl (fun s a=>if ra.to a=0 then s else s|||2^a) 0:=by unfold zkI;rw [Gi h,hn];rfl
 refine⟨Nat,fun k=>⟨[(1,.pointer (some ⟨w.heap.size,0,none⟩)),(3,s64 ((List.range k).foldl (fun s a=>if ra.to a=0 then s else s|||2^a) 0)),(9,i64 n),(10,i64 (k:Nat))],[]⟩,fun k Y=>X=Y/\k<=n/\(List.range k).foldl (fun s a=>if ra.to a=0 then s else s|||2^a) 0<2^64,fun k=>n-k,0,
  (cvE rfl rfl),⟨rfl,UU _,(by decide:0<2^64)⟩,?_⟩
 rintro k _ ⟨rfl,hk,hlt64⟩;refine biE (fun hc=>?_) fun hc=>?_
 ·have hc:(k:Int)<(n:Int):=dT hc;have hkn:k<n:=by omega
  have step:(List.range (k+1)).foldl (fun s a=>if ra.to a=0 then s else s|||2^a) 0=if ra.to k=0 then (List.range k).foldl (fun s a=>if ra.to a=0 then s else s|||2^a) 0 else (List.range k).foldl (fun s a=>if ra.to a=0 then s else s|||2^a) 0|||2^k:=by
   rw [QR,KQ];rfl
  refine⟨k,rfl,by omega,?_⟩;refine⟨_,zaF fX (by omega),biE (fun h1=>?_) fun h1=>?_⟩
  ·have h1:¬ ra.to k=0:=fun e=>by
    have h1:(!decide (((ra.to k:Nat):Int)=0))=true:=h1;rw [e] at h1;exact Gj h1 (by decide)
   rw [Gh h1] at step;exact⟨by omega,_,jX (e:=k) (by omega),_,zaf hlt64 (zZ (by omega)),nxI (by omega) ⟨k+1,⟨.cons rfl (.cons (by rw [step];rfl) (.cons rfl (.cons rfl .nil))),rfl⟩,⟨rfl,hkn,by rw [step];exact KV hlt64 (zZ (by omega))⟩,zdc (by omega)⟩⟩
  ·have h1:ra.to k=0:=by
    have h1:(!decide (((ra.to k:Nat):Int)=0))=false:=h1;have h2:decide (((ra.to k:Nat):Int)=0)=true:=(by simpa using h1);exact Uu (dT h2)
   rw [Gi h1] at step;exact nxI (by omega) ⟨k+1,⟨.cons rfl (.cons (by rw [step];rfl) (.cons rfl (.cons rfl .nil))),rfl⟩,⟨rfl,hkn,by rw [step];exact hlt64⟩,zdc (by omega)⟩
 ·have hc:¬ (k:Int)<(n:Int):=dF hc;obtain rfl:k=n:=by omega
  exact⟨by rw [e0];rfl,hbw⟩
theorem zsq (ha:zJ ra.to):CB 55 #[.agg (zf ra).toArray] w (.bool (zbT ra)):=by
 refine zF 10 [.agg (zf ra).toArray] Tryz.func55 ?_;have f0:=zy w (.cells (zf ra).toArray 39);have hb:Bw w (w.alloc (.cells (zf ra).toArray 39)):=zba w _;refine⟨zf ra,zg _,za f0,hlt f0,cmo (jV ha) ?_⟩;rintro e X ⟨rfl,hbX⟩;have hbw:=zst hb hbX;have fX:=zb hbX f0;refine biE (fun h=>?_) fun h=>?_
 ·have h:okR ra=true:=h;refine⟨zf ra,zg _,za fX,hlt fX,cmo (ztS ha) ?_⟩;rintro e Y ⟨rfl,hbY⟩;refine⟨rb ?_,(zst hbw hbY)⟩;unfold zbT;rw [h,Ut];exact QB.2 Int.ofNat_inj
 ·have h:okR ra=false:=h;exact⟨rb (by unfold zbT;rw [h];rfl),hbw⟩
end
theorem znY {X:Wd} {L:Nat} {r:RelD} (h:zY X L r):∀ i,i<48->X.cell? ⟨L,0+1+i*1,none⟩=some (s64 (r.to i)):=by
 have hR:RelAt X L 0 39 [] [] r:=⟨rfl,by simpa using h⟩;exact fun i hi=>hR.cell hi
theorem zse {s b:Nat}:decide ((((s/2^b&&&1:Nat):Nat):Int)=1)=s.testBit b:=by
 rw [zjz]
 cases s.testBit b <;> rfl
def jJ (n:Nat) (p:Nat->Nat->Bool) (a k:Nat):Nat->Nat:=fun i=>if i<a then zfa n (p i) else if i=a then zfa k (p a) else 0
theorem zj5 (n:Nat) (p:Nat->Nat->Bool) (a k:Nat):jJ n p a k a=zfa k (p a):=by
 unfold jJ;rw [Gh (by omega),Gi rfl]
theorem znV {n:Nat} {p:Nat->Nat->Bool} {a k:Nat} (h:p a k=true):upd (jJ n p a k) a (jJ n p a k a|||2^k)=jJ n p a (k+1):=by
 funext i;by_cases hi:i=a
 ·subst hi;rw [zQ,zj5,zj5,zdA,Gi h]
 ·rw [qz _ _ hi];unfold jJ;rw [Gh hi,Gh hi]
theorem zlE {n:Nat} {p:Nat->Nat->Bool} {a k:Nat} (h:p a k=false):jJ n p a k=jJ n p a (k+1):=by
 have e:zfa (k+1) (p a)=zfa k (p a):=by rw [zdA,Gh (by rw [h];decide)]
 funext i;unfold jJ;rw [e]
theorem zlF (n:Nat) (p:Nat->Nat->Bool) (a:Nat):jJ n p a n=jJ n p (a+1) 0:=by
 funext i;unfold jJ;by_cases h1:i<a
 ·rw [Gi h1,Gi (by omega)]
 ·by_cases h2:i=a
  ·subst h2;rw [Gh h1,Gi rfl,Gi (by omega)]
  ·rw [Gh h1,Gh h2,Gh (by omega)]
   split
   ·rfl
   ·rfl
theorem zlD (n:Nat) (p:Nat->Nat->Bool):jJ n p 0 0=fun _=>0:=by
 funext i;unfold jJ;rw [Gh (by omega)]
 split <;> rfl
theorem znW (n:Nat) (p:Nat->Nat->Bool):jJ n p n 0=(zbM n p).to:=by
 funext i;unfold jJ zbM jQ;show _=if i<n then _ else 0
 by_cases h:i<n
 ·rw [Gi h,Gi h]
 ·rw [Gh h,Gh h]
  split <;> rfl
theorem znU {n:Nat} {p:Nat->Nat->Bool} {a k:Nat} (hn:n<=64) (hk:k<=64):zJ (jJ n p a k):=fun i _=>by
 unfold jJ
 split
 ·exact zev _ n hn
 ·split
  ·exact zev _ k hk
  ·decide
section
variable {w:Wd}
theorem zT {b o a d:Nat} {r:RelD} (hc:∀ i,i<48->w.cell? ⟨b,o+1+i*1,none⟩=some (s64 (r.to i))) (hr:zJ r.to) (ha:a<48) (hd:d<48) :
  Calls PG 49 #[.pointer (some ⟨b,o,none⟩),i64 (a:Nat),i64 (d:Nat)] w fun e w'=>e = .returned (.bool (zh r a d))/\w=w':=by
 refine zF 17 [.pointer (some ⟨b,o,none⟩),i64 (a:Nat),i64 (d:Nat)] Tryz.func49 ?_;exact⟨a,rfl,ha,_,hc a ha,by omega,_,zf3 (a:=r.to a) (k:=d) (by omega),_,jY (a:=r.to a/2^d) (b:=1) (KC (Nat.div_le_self _ _) (hr a ha)) (by decide),rb zse,rfl⟩
theorem ze2 {e:Ev}:Calls PG 87 #[.agg (evE.enc e).toArray] w fun r w'=>r = .returned (.bool (decide (e.k=1)||decide (e.k=2)))/\Bw w w':=by
 refine zF 11 [.agg (evE.enc e).toArray] Tryz.func87 ?_;have f:=zy w (.cells (evE.enc e).toArray 49);have hb:Bw w (w.alloc (.cells (evE.enc e).toArray 49)):=zba w _;refine⟨u8 e.k,zc (za f) (i:=1) rfl,biE (fun h=>?_) fun h=>?_⟩
 ·have h:e.k=1:=qq.1 (dT h);exact⟨rb (by rw [Un h];rfl),hb⟩
 ·have h:¬ e.k=1:=fun e2=>(dF h) (by rw [e2];rfl);refine⟨u8 e.k,zc (za f) (i:=1) rfl,rb ?_,hb⟩;rw [Uc h,Uq];exact QB.2 (qq (x:=e.k) (y:=2))
theorem zlO {n g:Nat} {caps:Array Value} {p:Nat->Nat->Bool} (hn:n<=48) (hok:jP (sg 0) g=true)
  (hp:∀ a d X,a<n->d<n->Bw w X->Calls PG g (i64 (a:Nat)::i64 (d:Nat)::caps.toList).toArray X fun e Y=>e = .returned (.bool (p a d))/\Bw X Y) :
  CB 47 #[i64 n,.func (.func g) #[] caps] w (.agg (zf (zbM n p)).toArray):=by
 refine qk 34 [i64 n,.func (.func g) #[] caps] (.c .p (.c .p (.c .p .p))) Tryz.func47 ?_;obtain⟨L,hL⟩:=nm (w.heap.size);refine⟨Unit,fun _=>⟨[(0,i64 n),(1,.func (.func g) #[] caps),(4,At0 L)],[]⟩,fun _ X=>zY X L zB/\X.heap.size=L+1/\Bw w X,?_,?_⟩
 ·exact⟨(),⟨.cons rfl (.cons rfl (.cons (by rw [hL];rfl) .nil)),rfl⟩,by rw [hL];exact zy w _,by rw [hL];exact wz _ _,(zba w _)⟩
 rintro _ X ⟨f0,sX,hbX⟩;refine⟨Unit,fun _=>⟨[(0,i64 n),(1,.func (.func g) #[] caps),(4,At0 L),(5,At0 (L+1))],[]⟩,fun _ Y=>zY Y (L+1) ⟨n,jJ n p 0 0⟩/\Y.heap.size=L+2/\Bw X Y,?_,?_⟩
 ·refine⟨zf ⟨n,fun _=>0⟩,by kernel_rfl,?_⟩;refine zo (X:=X) (v := .agg (zf ⟨n,fun _=>0⟩).toArray) k39 (zg _) (by kernel_rfl) (zE _) fun Z hbZ fZ sZ=>?_;rw [sX] at fZ sZ;exact⟨(),⟨.cons rfl (.cons rfl (.cons rfl (.cons (by rw [<- sX];rfl) .nil))),rfl⟩,by rw [zlD];exact fZ,sZ,hbZ⟩
 rintro _ Y ⟨f1,sY,hbY⟩;have hbwY:=zst hbX hbY;have f0:=zb hbY f0;refine⟨Unit,fun _=>⟨[(4,At0 L),(5,At0 (L+1))],[]⟩,fun _ Z=>zY Z (L+1) (zbM n p)/\zY Z L zB/\Bw w Z,?_,?_⟩
 ·refine⟨Nat,fun a=>⟨[(0,i64 n),(1,.func (.func g) #[] caps),(4,At0 L),(5,At0 (L+1)),(10,i64 n),(11,i64 (a:Nat))],[]⟩,fun a Z=>a<=n/\zY Z (L+1) ⟨n,jJ n p a 0⟩/\zY Z L zB/\Bw w Z,fun a=>n-a,0,
   (cvE rfl rfl),⟨UU _,f1,f0,hbwY⟩,?_⟩
  rintro a Z ⟨ha,f1,f0,hbZ⟩;dsimp only at f1 ⊢;refine biE (fun hc=>?_) fun hc=>?_
  ·have hc:(a:Int)<(n:Int):=dT hc;have han:a<n:=by omega
   refine⟨Nat,fun d=>⟨[(0,i64 n),(1,.func (.func g) #[] caps),(4,At0 L),(5,At0 (L+1)),(6,i64 (a:Nat)),(10,i64 n),(11,i64 (a:Nat)),(14,i64 n),(15,i64 (d:Nat))],[]⟩,fun d V=>d<=n/\zY V (L+1) ⟨n,jJ n p a d⟩/\zY V L zB/\Bw w V,fun d=>n-d,0,
    (cvE rfl rfl),⟨UU _,f1,f0,hbZ⟩,?_⟩
   clear f1 f0 hbZ;rintro d V ⟨hd,f1,f0,hbV⟩;dsimp only at f1 ⊢;refine biE (fun hc=>?_) fun hc=>?_
   ·have hc:(d:Int)<(n:Int):=dT hc;have hdn:d<n:=(by omega);refine zhC hok (hp a d V han hdn hbV) ?_;rintro e U ⟨rfl,hbU⟩;refine⟨_,rfl,?_⟩;have f1:=zb hbU f1;have f0:=zb hbU f0;have hbU2:=zst hbV hbU;have sU:=hbU2.size;refine biE (fun h=>?_) fun h=>?_
    ·have h:p a d=true:=h;have hR:RelAt U (L+1) 0 39 [] [] ⟨n,jJ n p a d⟩:=⟨rfl,by simpa using f1⟩;have dU:Bw U U.drew:=(UW _ _).drew;have ha48:a<48:=(by omega);refine DrawE.ord [9] [0,1,2,3,4,5,6,7,8,9] (by kernel_rfl) ⟨a,rfl,ha48,s64 (jJ n p a d a),(hR.same (Y:=U.drew) rfl).cell ha48,by omega,_,jX (e:=d) (by omega),_,zaf (znU (by omega) (by omega) a ha48) (zZ (by omega)),a,rfl,ha48,zm k36 (hR.same (Y:=U.drew) rfl).cells (o:=0+1+a*1) (v:=s64 (jJ n p a d a|||2^d)) rfl rfl (by rw [hR.len];omega) rfl fun S fS gS sS=>?_⟩;rw [hR.set ha48] at fS;have e5:upd (jJ n p a d) a (jJ n p a d a|||2^d)=jJ n p a (d+1):=znV h;dsimp only at fS;rw [e5] at fS;have gS2:U.grownBy S (some (L+1)):=zd (zi dU) gS;exact nxI (by omega) ⟨d+1,(cvE rfl rfl),⟨hdn,by simpa using fS,(gS2.block L (hlt f0) (by simp)).trans f0,hbU2.trans (zk gS2 sU (by omega))⟩,zdc (by omega)⟩
    ·have h:p a d=false:=h;exact nxI (by omega) ⟨d+1,(cvE rfl rfl),⟨hdn,by rw [<- zlE h];exact f1,f0,hbU2⟩,zdc (by omega)⟩
   ·have hc:¬ (d:Int)<(n:Int):=dF hc;obtain rfl:d=n:=(by omega);exact nxI (by omega) ⟨a+1,(cvE rfl rfl),⟨han,by rw [<- zlF];exact f1,f0,hbV⟩,zdc (by omega)⟩
  ·have hc:¬ (a:Int)<(n:Int):=dF hc;obtain rfl:a=n:=by omega
   rw [znW] at f1;exact⟨(),(cvE rfl rfl),f1,f0,hbZ⟩
 rintro _ Z ⟨f1,f0,hbZ⟩;exact⟨zf (zbM n p),zg _,za f1,hlt f1,zt (v := .agg (zf (zbM n p)).toArray) k39 f0 (zg _) (zg _) (zE _) ⟨zf (zbM n p),zg _,za (zn f0),rfl,zl hbZ (by omega) _⟩⟩
def zsX:Enc RelD:=⟨zf,49,zg,by decide,fun a u hu=>Qg.1 (zE a) u hu⟩
theorem zcH {l:List RelD}:∀ {r:RelD},zJ r.to->(∀ o∈l,zJ o.to)->zJ (z9 r l).to:=by
 induction l with
 | nil=>exact fun h _=>h
 | cons o l ih=>exact fun h hl=>ih (znC h (hl o Kx)) fun x hx=>hl x (JW _ hx)
theorem ziO {r:RelD} {l:List RelD} {pm:OA} {cm:Nat} (hr:zJ r.to) (hl:SlR zsX w pm l) (hw:∀ o∈l,zJ o.to) (hn:l.length<=1000) :
  CB 52 #[.agg (zf r).toArray,.slice pm l.length cm] w (.agg (zf (z9 r l)).toArray):=by
 refine qk 21 [.agg (zf r).toArray,.slice pm l.length cm] (.c .p (.c .p .p)) Tryz.func52 ?_;obtain⟨L,hL⟩:=nm (w.heap.size);refine⟨Unit,fun _=>⟨[(1,.slice pm l.length cm),(2,At0 L),(4,At0 (L+1))],[]⟩,fun _ X=>zY X L r/\zY X (L+1) zB/\Bw w X,?_,?_⟩
 ·have s1:=wz w (.cells (zf r).toArray 39);have h2:=zy (w.alloc (.cells (zf r).toArray 39)) (.cells (zf zB).toArray 39);rw [s1] at h2;refine⟨(),⟨.cons rfl (.cons (by rw [hL];rfl) (.cons (by rw [hL,<- s1];rfl) .nil)),rfl⟩,by rw [hL];exact qJ _ (zy w _),by rw [hL];exact h2,((zba w _)).alloc (by simp) _⟩
 rintro _ X ⟨f0,f1,hbX⟩;refine⟨Unit,fun _=>⟨[(2,At0 L),(4,At0 (L+1))],[]⟩,fun _ Z=>zY Z L (z9 r l)/\zY Z (L+1) zB/\Bw w Z,?_,?_⟩
 ·refine⟨Nat,fun k=>⟨[(2,At0 L),(4,At0 (L+1)),(7,.slice pm l.length cm),(8,i64 l.length),(9,i64 (k:Nat))],[]⟩,fun k Z=>k<=l.length/\zY Z L (z9 r (l.take k))/\zY Z (L+1) zB/\Bw w Z,fun k=>l.length-k,0,
   (cvE rfl rfl),⟨UU _,f0,f1,hbX⟩,?_⟩
  clear f0 f1 hbX;rintro k Z ⟨hk,f0,f1,hbZ⟩;dsimp only;have hZs:=hbZ.size;refine biE (fun hc=>?_) fun hc=>?_
  ·have hc:(k:Int)<(l.length:Int):=dT hc;have hkl:k<l.length:=by omega
   obtain⟨b,o,rfl,hb,hat⟩:=hl.at hkl;obtain⟨t,ht⟩:∃ t,l[k]=t:=⟨_,rfl⟩;have htm:t∈l:=by rw [<- ht];exact gM hkl
   have htk:z9 r (l.take (k+1))=(zaS (z9 r (l.take k)) t).1:=by
    unfold z9;rw [tsg hkl,ht,KQ];rfl
   have hut:zJ (z9 r (l.take k)).to:=zcH hr fun o ho=>hw o (JZ ho);refine⟨k,rfl,hkl,zf t,zg _,by rw [<- ht];exact zr hbZ (hat k hkl),nL hb hZs,zo (X:=Z) (v := .agg (zf t).toArray) k39 (zg _) (by kernel_rfl) (zE _) fun Y hbY fY sY=>?_⟩;have fY:zY Y Z.heap.size t:=fY;have f0:=zb hbY f0;have f1:=zb hbY f1;refine⟨zf (z9 r (l.take k)),zg _,za f0,hlt f0,zf t,zg _,za fY,hlt fY,cmo (zsk hut (hw t htm)) ?_⟩;rintro e V ⟨rfl,hbV⟩;have f0:=zb hbV f0;have f1:=zb hbV f1;refine zt (v := .agg (zf (zaS (z9 r (l.take k)) t).1).toArray) k39 f0 (zg _) (zg _) (zE _) (nxI (by omega) ?_);have hbV2:=(hbZ.trans (hbY.mono hZs)).trans (hbV.mono (by have:=hbY.size;omega));exact⟨k+1,(cvE rfl rfl),⟨hkl,by rw [htk];exact zn f0,(zq (by omega)).trans f1,zl hbV2 (by omega) _⟩,zdc (by omega)⟩
  ·have hc:¬ (k:Int)<(l.length:Int):=dF hc;obtain rfl:k=l.length:=by omega
   rw [Qt] at f0;exact⟨(),(cvE rfl rfl),f0,f1,hbZ⟩
 rintro _ Z ⟨f0,f1,hbZ⟩;exact⟨zf (z9 r l),zg _,za f0,hlt f0,zt (v := .agg (zf (z9 r l)).toArray) k39 f1 (zg _) (zg _) (zE _) ⟨zf (z9 r l),zg _,za (zn f1),rfl,zl hbZ (by omega) _⟩⟩
end
section
variable {w:Wd} {b c:Nat} {x:ExD} {q:OA}
theorem zfr {X:Wd} {o:Nat} {r:RelD} (fx:zI X ⟨b,0,none⟩ (exC x q c)) (h:∃ A T,A.length=o/\exC x q c=A++(zf r++T)):∀ i,i<48->X.cell? ⟨b,o+1+i*1,none⟩=some (s64 (r.to i)):=by
 intro i hi;obtain⟨A,T,hA,hE⟩:=h;have:(exC x q c)[o+1+i*1]?=some (s64 (r.to i)):=by
  rw [hE,US,Uz,qW hA,Jq (by rw [zg];omega),zeA r hi]
 have h2:=zc fx this;rw [UM] at h2;exact h2
theorem zpW (x:ExD) (q:OA) (c:Nat):∃ A T,A.length=1/\exC x q c=A++(zf x.po++T):=by
 obtain⟨A,T,hA,hE⟩:=znb x q c [];exact⟨A,T,hA,by rw [<- hE,QF]⟩
theorem ztm (x:ExD) (q:OA) (c:Nat):∃ A T,A.length=148/\exC x q c=A++(zf x.dt++T):=by
 obtain⟨A,T,hA,hE⟩:=znc x q c [];exact⟨A,T,hA,by rw [<- hE,QF]⟩
theorem ztn (x:ExD) (q:OA) (c:Nat):∃ A T,A.length=197/\exC x q c=A++(zf x.ct++T):=by
 obtain⟨A,T,hA,hE⟩:=znd x q c [];exact⟨A,T,hA,by rw [<- hE,QF]⟩
theorem zpV (x:ExD) (q:OA) (c:Nat):∃ A T,A.length=246/\exC x q c=A++(zf x.rm++T):=by
 obtain⟨A,T,hA,hE⟩:=zm9 x q c [];exact⟨A,T,hA,by rw [<- hE,QF]⟩
theorem zjB (x:ExD) (i:Nat):(decide ((evA x i).k=1)||decide ((evA x i).k=2))=zaj x i:=rfl
theorem zcg {X:Wd} (hv:SlR evE X q x.ev) {a:Nat} (ha:a<x.ev.length):∃ bq oq,q=some ⟨bq,oq,none⟩/\bq<X.heap.size/\zI X ⟨bq,oq+a*7,none⟩ (evE.enc (evA x a)):=zch hv ha
theorem zo9 {a d:Nat} (fx:zI w ⟨b,0,none⟩ (exC x q c)) (hv:SlR evE w q x.ev) (ha:a<x.ev.length) (hd:d<x.ev.length) :
  CB 50 #[At0 b,i64 (a:Nat),i64 (d:Nat)] w (.bool (zbu x a d)):=by
 refine qk 44 [At0 b,i64 (a:Nat),i64 (d:Nat)] (.c .p .p) Tryz.func50 ?_;refine⟨Unit,fun _=>⟨[(0,At0 b),(1,i64 (a:Nat)),(2,i64 (d:Nat))],[]⟩,fun _ X=>w=X,⟨(),(cvE rfl rfl),rfl⟩,?_⟩;rintro _ _ rfl;obtain⟨bq,oq,hqe,hb,hat⟩:=zcg hv ha;obtain⟨bq2,oq2,hqe2,hb2,hat2⟩:=zcg hv hd;rw [hqe] at hqe2;simp only [KW,Up,Gc] at hqe2;rw [<- hqe2.1,<- hqe2.2] at hat2;subst hqe;have dw:Bw w w.drew:=(UW _ _).drew;refine DrawE.ord [] [0,1,2,3,4,5,6,7,8,9,10,11,12,13,14,15,16,17,18,19,20,21,22,23,24,25,26,27,28,29,30,31,32,33,34,35,36,37] (by kernel_rfl) ⟨_,zap (zr dw fx),a,rfl,ha,evE.enc (evA x a),rfl,zr dw hat,nL hb dw.size,cmo ze2 ?_⟩;rintro e X ⟨rfl,hbX⟩;refine⟨hbX,?_⟩;have bX:=dw.trans hbX;rw [zjB];refine biE (fun h1=>?_) fun h1=>?_
 ·have h1:zaj x a=true:=h1;refine⟨_,zap (zr bX fx),d,rfl,hd,evE.enc (evA x d),rfl,zr bX hat2,nL hb bX.size,cmo ze2 ?_⟩;rintro e Y ⟨rfl,hbY⟩;refine⟨hbY,?_⟩;have bY:=zst bX hbY;rw [zjB];refine biE (fun h2=>?_) fun h2=>?_
  ·have h2:zaj x d=true:=h2;refine⟨_,zap (zr bY fx),a,rfl,ha,u8 (evA x a).l,by have:=zc (zr bY hat) (i:=2) (v:=u8 (evA x a).l) rfl;exact this,_,zap (zr bY fx),d,rfl,hd,u8 (evA x d).l,by have:=zc (zr bY hat2) (i:=2) (v:=u8 (evA x d).l) rfl;exact this,rb ?_,bY⟩;unfold zbu;rw [h1,h2,Ut,Ut];exact QB.2 qq
  ·have h2:zaj x d=false:=h2;refine⟨rb ?_,bY⟩;unfold zbu;rw [h1,h2];rfl
 ·have h1:zaj x a=false:=h1;refine brF ⟨rb ?_,bX⟩;unfold zbu;rw [h1];rfl
end
structure ScnV (X:Wd) (b:Nat) (x:ExD) (q:OA) (c:Nat) (f l s:RelD):Prop where
 h:X.heap[b]?=some (.cells (exC x q c++(zf f++(zf l++zf s))).toArray 157 (0,0))
 v:ExW X x q
 wf:zJ f.to
 wl:zJ l.to
 ws:zJ s.to
section
variable {w:Wd} {b c:Nat} {x:ExD} {q:OA} {f l s:RelD}
theorem ScnV.below {X Y:Wd} (h:ScnV X b x q c f l s) (hb:Bw X Y):ScnV Y b x q c f l s:=⟨zb hb h.h,h.v.below hb,h.wf,h.wl,h.ws⟩
theorem ScnV.cells {X:Wd} (h:ScnV X b x q c f l s):zI X ⟨b,0,none⟩ (exC x q c):=by
 have:=zP (n:=0) (m:=333) (za h.h);have e:((exC x q c++(zf f++(zf l++zf s))).toArray.toList.drop 0).take 333=exC x q c:=by
  show (exC x q c++_).take 333=_;rw [Jf (by rw [zD];decide),JF (by rw [zD];decide)]
 rw [e] at this;exact this
theorem ScnV.at {X:Wd} {o:Nat} {r:RelD} (h:ScnV X b x q c f l s) (hr:∃ A T,A.length=o/\exC x q c++(zf f++(zf l++zf s))=A++(zf r++T)):∀ i,i<48->X.cell? ⟨b,o+1+i*1,none⟩=some (s64 (r.to i)):=by
 intro i hi;obtain⟨A,T,hA,hE⟩:=hr;have:(exC x q c++(zf f++(zf l++zf s)))[o+1+i*1]?=some (s64 (r.to i)):=by
  rw [hE,US,Uz,qW hA,Jq (by rw [zg];omega),zeA r hi]
 have h2:=zc (za h.h) this;rw [UM] at h2;exact h2
theorem ScnV.full {X:Wd} (h:ScnV X b x q c f l s):∀ i,i<48->X.cell? ⟨b,0+333+1+i*1,none⟩=some (s64 (f.to i)):=h.at ⟨exC x q c,zf l++zf s,zD _ _ _,rfl⟩
theorem ScnV.loads {X:Wd} (h:ScnV X b x q c f l s):∀ i,i<48->X.cell? ⟨b,0+382+1+i*1,none⟩=some (s64 (l.to i)):=h.at ⟨exC x q c++zf f,zf s,by rw [lap,zD,zg],by rw [KL]⟩
theorem ScnV.stores {X:Wd} (h:ScnV X b x q c f l s):∀ i,i<48->X.cell? ⟨b,0+431+1+i*1,none⟩=some (s64 (s.to i)):=h.at ⟨exC x q c++(zf f++zf l),[],by rw [lap,lap,zD,zg,zg],by simp only [KL,QF]⟩
theorem zd9 {a:Nat} (h:ScnV w b x q c f l s) (ha:a<x.ev.length):Calls PG 123 #[At0 b,i64 (a:Nat)] w fun e w'=>e = .returned (.bool (isR x a))/\w=w':=by
 refine zF 15 [At0 b,i64 (a:Nat)] Tryz.func123 ?_;obtain⟨bq,oq,hqe,hb,hat⟩:=zcg h.v.ev ha;have fx:=h.cells;subst hqe;exact⟨_,zap fx,a,rfl,ha,u8 (evA x a).k,by have:=zc hat (i:=1) (v:=u8 (evA x a).k) rfl;exact this,rb (QB.2 (qq (x:=(evA x a).k) (y:=1))),rfl⟩
theorem jy {a:Nat} (h:ScnV w b x q c f l s) (ha:a<x.ev.length):Calls PG 124 #[At0 b,i64 (a:Nat)] w fun e w'=>e = .returned (.bool (isW x a))/\w=w':=by
 refine zF 15 [At0 b,i64 (a:Nat)] Tryz.func124 ?_;obtain⟨bq,oq,hqe,hb,hat⟩:=zcg h.v.ev ha;have fx:=h.cells;subst hqe;exact⟨_,zap fx,a,rfl,ha,u8 (evA x a).k,by have:=zc hat (i:=1) (v:=u8 (evA x a).k) rfl;exact this,rb (QB.2 (qq (x:=(evA x a).k) (y:=2))),rfl⟩
theorem zc8 {a:Nat} {md:UInt8} (h:ScnV w b x q c f l s) (ha:a<x.ev.length):Calls PG 128 #[At0 b,i64 (a:Nat),u8 md] w fun e w'=>e = .returned (.bool (zW x a md))/\w=w':=by
 refine zF 30 [At0 b,i64 (a:Nat),u8 md] Tryz.func128 ?_;obtain⟨bq,oq,hqe,hb,hat⟩:=zcg h.v.ev ha;have fx:=h.cells;subst hqe;refine⟨_,zap fx,a,rfl,ha,u8 (evA x a).m,by have:=zc hat (i:=4) (v:=u8 (evA x a).m) rfl;exact this,biE (fun h1=>?_) fun h1=>?_⟩
 ·have h1:(evA x a).m=md:=qq.1 (dT h1);exact⟨rb (by unfold zW;rw [Un h1];rfl),rfl⟩
 ·have h1:¬ (evA x a).m=md:=fun e=>(dF h1) (by rw [e]);exact⟨_,zap fx,a,rfl,ha,u8 (evA x a).m,by have:=zc hat (i:=4) (v:=u8 (evA x a).m) rfl;exact this,rb (by unfold zW;rw [Uc h1,Uq];exact QB.2 (qq (x:=(evA x a).m) (y:=3))),rfl⟩
theorem zns {a d:Nat} (h:ScnV w b x q c f l s) (ha:a<x.ev.length) (hd:d<x.ev.length):Calls PG 125 #[At0 b,i64 (a:Nat),i64 (d:Nat)] w fun e w'=>e = .returned (.bool (zai x f a d))/\w=w':=by
 refine zF 23 [At0 b,i64 (a:Nat),i64 (d:Nat)] Tryz.func125 ?_;have hn:=h.v.n;refine cmo (zT h.full h.wf (by omega) (by omega)) ?_;rintro e _ ⟨rfl,rfl⟩;refine biE (fun h1=>?_) fun h1=>?_
 ·have h1:zh f a d=true:=h1;exact brT ⟨rb (by unfold zai;rw [h1];rfl),rfl⟩
 have h1:zh f a d=false:=h1;refine cmo (zc8 (md:=3) h ha) ?_;rintro e _ ⟨rfl,rfl⟩;refine biE (fun h2=>?_) fun h2=>?_
 ·have h2:zW x a 3=true:=h2;exact⟨rb (by unfold zai;rw [h1,h2];rfl),rfl⟩
 have h2:zW x a 3=false:=h2;refine cmo (zc8 (md:=3) h hd) ?_;rintro e _ ⟨rfl,rfl⟩;exact⟨rb (by unfold zai;rw [h1,h2];rfl),rfl⟩
end
abbrev orG (l:List Nat):Nat:=l.foldl (fun s i=>s|||2^i) 0
theorem zpr (l:List Nat) (i:Nat):orG (l++[i])=orG l|||2^i:=by
 unfold orG;rw [KQ];rfl
theorem zmX:∀ (l:List Nat) (s:Nat),s<2^64->(∀ i∈l,i<64)->l.foldl (fun s i=>s|||2^i) s<2^64
 | [],s,h,_=>h
 | i::l,s,h,hl=>zmX l (s|||2^i) (KV h (zZ (hl i Kx))) fun j hj=>hl j (JW _ hj)
theorem zps {l:List Nat} (hl:∀ i∈l,i<64):orG l<2^64:=zmX l 0 (by decide) hl
section
variable {w:Wd}
theorem zuV {p:OA} {cp:Nat} {l:List Nat} (hl:SlR zC w p l) (h64:∀ i∈l,i<64) (hn:l.length<=1000):Calls PG 118 #[.slice p l.length cp] w fun e w'=>e = .returned (.tuple #[s64 (orG l),i64 0])/\w=w':=by
 refine zF 25 [.slice p l.length cp] Tryz.func118 ?_;refine⟨Nat,fun k=>⟨[(4,s64 (orG (l.take k))),(7,.slice p l.length cp),(8,i64 l.length),(9,i64 (k:Nat))],[]⟩,fun k X=>k<=l.length/\w=X,fun k=>l.length-k,0,(cvE rfl rfl),⟨UU _,rfl⟩,?_⟩;rintro k _ ⟨hk,rfl⟩;dsimp only;refine biE (fun hc=>?_) fun hc=>?_
 ·have hc:(k:Int)<(l.length:Int):=dT hc;have hkl:k<l.length:=by omega
  obtain⟨b,o,rfl,hb,hat⟩:=hl.at hkl;obtain⟨t,ht⟩:∃ t,l[k]=t:=⟨_,rfl⟩;have ht64:=h64 t (by rw [<- ht];exact gM hkl);have htk:orG (l.take (k+1))=orG (l.take k)|||2^t:=by rw [tsg hkl,ht,zpr]
  refine⟨k,rfl,hkl,i64 t,by have:=zc (hat k hkl) (i:=0) (v:=i64 t) (by rw [ht];rfl);exact this,biE (fun h=>?_) fun _=>?_⟩
  ·have h:(t:Int)<0:=dT h;omega
  refine biE (fun h=>?_) fun _=>?_
  ·have h:(64:Int)<=(t:Nat):=dT h;omega
  exact⟨by omega,_,jX (e:=t) (by omega),_,zaf (zps fun i hi=>h64 i (JZ hi)) (zZ ht64),nxI (by omega) ⟨k+1,⟨.cons (by show _=some (s64 (orG (l.take (k+1))));rw [htk];rfl) (.cons rfl (.cons rfl (.cons rfl .nil))),rfl⟩,⟨hkl,rfl⟩,zdc (by omega)⟩⟩
 ·have hc:¬ (k:Int)<(l.length:Int):=dF hc;obtain rfl:k=l.length:=by omega
  rw [Qt];exact⟨rfl,rfl⟩
end
section
variable {b c:Nat} {x:ExD} {q:OA} {w:Wd}
theorem zpS (hv:ExW w x q) (hT:Tz64M w):zJ (zV x.rf).to/\zJ (frM x).to:=by
 have h1:zJ (zV x.rf).to:=by
  unfold zV
  split
  ·rename_i h;intro i hi;refine Qw fun hge=>?_;obtain⟨j,hj1,hj2⟩:=Ja hge;rw [show ((⟨x.rf.n,zaC x.rf.to x.rf.n.toNat⟩:RelD).to i)=zaC x.rf.to x.rf.n.toNat i from rfl,zfB,bAT,dE] at hj2;have h48:=(jm h).2.1;omega
  ·exact fun i _=>(by show 0<2^64;decide)
 exact⟨h1,zc7 h1 hv.co⟩
theorem zuO (fx:ExH w b x q c) (hv:ExW w x q) (hT:Tz64M w):CB 37 #[At0 b] w (.agg (zf (frM x)).toArray):=by
 refine qk 19 [At0 b] (.c .p (.c .p .p)) Tryz.func37 ?_;obtain⟨L,hL⟩:=nm (w.heap.size);obtain⟨wb,wf⟩:=zpS hv hT;refine⟨Unit,fun _=>⟨[(0,At0 b),(2,At0 L)],[]⟩,fun _ X=>zY X L zB/\Bw w X,⟨(),⟨.cons rfl (.cons (by rw [hL];rfl) .nil),rfl⟩,by rw [hL];exact zy w _,(zba w _)⟩,?_⟩;rintro _ X ⟨f0,hbX⟩;refine⟨Nat,fun F=>⟨[(2,At0 L),(3,At0 F)],[]⟩,fun F Z=>zY Z F (frM x)/\zY Z L zB/\Bw w Z,?_,?_⟩
 ·have dX:Bw X X.drew:=(UW _ _).drew;have fX:=hdr (zb hbX fx);have hba:∀ (A:Wd) (o:Obj),Bw A (A.alloc o):=fun A o=>(zba _ _);have put:∀ (W:Wd) (b3:Nat),Bw X W->zY W b3 zB->X.heap.size<=b3->∀ {K:Wd->Prop},(∀ V,(zY V b3 (frM x)/\zY V L zB/\Bw w V)->K V) ->
    SatR ((storeVar 39 ⟨b3,0,none⟩ (.agg (zf (frM x)).toArray)).run PG W) fun _ w'=>K w':=by
   intro W b3 hW f3 g3 K k;refine zt (v := .agg (zf (frM x)).toArray) k39 f3 (zg _) (zg _) (zE _) ?_;have hL2:=hlt f0;exact k _ ⟨zn f3,(zq (by omega)).trans (zb hW f0),zl ((zst hbX hW)) (by have:=hbX.size;omega) _⟩
  refine DrawE.treeQ [14] (.op 0 (.op 1 (.op 2 (.op 3 (.op 5 (.op 6 (.op 7 (.op 8 (.alt (.op 13 (.op 4 (.op 9 (.op 10 (.op 11 (.op 12 (.op 14 (.op 15 (.nil))))))))) (.op 4 (.alt (.op 13 (.op 9 (.op 10 (.op 11 (.op 12 (.op 14 (.op 15 (.nil)))))))) (.op 9 (.op 10 (.op 11 (.op 12 (.op 13 (.op 14 (.op 15 (.nil))))))))))))))))))) (by kernel_rfl) ⟨zf x.rf,zg _,jD fX (i:=1) (by decide) rfl,hlt fX,zf x.co,zg _,jD fX (i:=2) (by decide) rfl,hlt fX,Ga ?_ ?_⟩
  ·refine⟨hba _ _,?_⟩;have b1:=dX.alloc (UR _) (.cells (zf zB).toArray 39);refine cmo (zhK hv.rf (hT.below ((zst hbX b1)))) ?_;rintro e Y ⟨rfl,hbY,_⟩;refine⟨hbY,?_⟩;have b2:=zst b1 hbY;refine cmo (zci wb hv.co (hT.below ((zst hbX b2)))) ?_;rintro e Z ⟨rfl,hbZ⟩;exact⟨hbZ,put Z X.heap.size ((zst b2 hbZ)) (zb hbZ (zb hbY (zy X.drew _))) (UR _) (fun V hV=>⟨X.heap.size,(cvE rfl rfl),hV⟩)⟩
  refine cmo (zhK hv.rf (hT.below ((zst hbX dX)))) ?_;rintro e Y ⟨rfl,hbY,_⟩;refine⟨hbY,?_⟩;have b1:=zst dX hbY;refine Ga ?_ ?_
  ·refine⟨hba _ _,?_⟩;have b2:=b1.alloc b1.size (.cells (zf zB).toArray 39);refine cmo (zci wb hv.co (hT.below ((zst hbX b2)))) ?_;rintro e Z ⟨rfl,hbZ⟩;exact⟨hbZ,put Z Y.heap.size ((zst b2 hbZ)) (zb hbZ (zy Y _)) b1.size (fun V hV=>⟨Y.heap.size,(cvE rfl rfl),hV⟩)⟩
  ·refine cmo (zci wb hv.co (hT.below ((zst hbX b1)))) ?_;rintro e Z ⟨rfl,hbZ⟩;refine⟨hbZ,?_⟩;have b2:=zst b1 hbZ;exact⟨hba _ _,put _ Z.heap.size (b2.alloc b2.size _) (zy Z _) b2.size (fun V hV=>⟨Z.heap.size,(cvE rfl rfl),hV⟩)⟩
 rintro F Z ⟨f1,f0,hbZ⟩;exact⟨zf (frM x),zg _,za f1,hlt f1,zt (v := .agg (zf (frM x)).toArray) k39 f0 (zg _) (zg _) (zE _) ⟨zf (frM x),zg _,za (zn f0),rfl,zl hbZ (by omega) _⟩⟩
end
section
variable {b c:Nat} {x:ExD} {q:OA} {w:Wd}
theorem ztl {r:RelD} {a d R B:Nat} (fR:zY w R r) (hr:zJ r.to) (fB:w.heap[B]?=some (.cells #[At0 b] 81 (0,0))) (fx:ExH w b x q c) (hv:ExW w x q) (ha:a<x.ev.length) (hd:d<x.ev.length) :
  CB 92 #[i64 (a:Nat),i64 (d:Nat),At0 R,At0 B] w (.bool (zh r a d && !decide ((evA x a).th=(evA x d).th))):=by
 refine zF 29 [i64 (a:Nat),i64 (d:Nat),At0 R,At0 B] Tryz.func92 ?_;have hn:=hv.n;obtain⟨bq,oq,hqe,hb,hat⟩:=zcg hv.ev ha;obtain⟨bq2,oq2,hqe2,hb2,hat2⟩:=zcg hv.ev hd;rw [hqe] at hqe2;simp only [KW,Up,Gc] at hqe2;rw [<- hqe2.1,<- hqe2.2] at hat2;subst hqe;have dw:Bw w w.drew:=(UW _ _).drew;refine DrawE.ord [] [0,1,2,3,4,5,6,7,8,9,10,11,12,13,14,15,16,17,18,19,20,21,22] (by kernel_rfl) (cmo (zT (znY (hdr fR)) hr (by omega) (by omega)) ?_);rintro e _ ⟨rfl,rfl⟩;refine⟨UW _ _,biE (fun h1=>?_) fun h1=>?_⟩
 ·have h1:zh r a d=true:=h1;exact⟨At0 b,zc (za (hdr fB)) (i:=0) rfl,_,zap (za (hdr fx)),a,rfl,ha,i64 (evA x a).th,by have:=zc (zr dw hat) (i:=0) (v:=i64 (evA x a).th) rfl;exact this,At0 b,zc (za (hdr fB)) (i:=0) rfl,_,zap (za (hdr fx)),d,rfl,hd,i64 (evA x d).th,by have:=zc (zr dw hat2) (i:=0) (v:=i64 (evA x d).th) rfl;exact this,rb (by rw [h1,Ut]),dw⟩
 ·have h1:zh r a d=false:=h1;exact⟨rb (by rw [h1,Ue]),dw⟩
theorem zoz {a d B:Nat} (fB:w.heap[B]?=some (.cells #[At0 b] 81 (0,0))) (fx:ExH w b x q c) (hv:ExW w x q) (ha:a<x.ev.length) (hd:d<x.ev.length) :
  CB 48 #[i64 (a:Nat),i64 (d:Nat),At0 B] w (.bool (zh x.po a d&&zbu x a d)):=by
 refine zF 18 [i64 (a:Nat),i64 (d:Nat),At0 B] Tryz.func48 ?_;have hn:=hv.n;refine⟨At0 b,zc (za fB) (i:=0) rfl,cmo (zT (zfr (za fx) (zpW x q c)) hv.po (by omega) (by omega)) ?_⟩;rintro e _ ⟨rfl,rfl⟩;refine biE (fun h1=>?_) fun h1=>?_
 ·have h1:zh x.po a d=true:=h1;refine⟨At0 b,zc (za fB) (i:=0) rfl,cmo (zo9 (za fx) hv.ev ha hd) ?_⟩;rintro e X ⟨rfl,hb⟩;exact⟨rb (by rw [h1,Ut]),hb⟩
 ·have h1:zh x.po a d=false:=h1;exact⟨rb (by rw [h1,Ue]),UW _ _⟩
theorem zue {r:RelD} (fx:ExH w b x q c) (hv:ExW w x q) (hr:zJ r.to) (hn:r.n=x.ev.length) :
  CB 56 #[At0 b,.agg (zf r).toArray] w (.agg (zf (zbU x r)).toArray):=by
 refine qk 9 [At0 b,.agg (zf r).toArray] (.c .p (.c .p .p)) Tryz.func56 ?_;obtain⟨L,hL⟩:=nm (w.heap.size);have h19:=hv.n;refine⟨Unit,fun _=>⟨[(2,At0 L),(3,At0 (L+1)),(4,At0 (L+2))],[]⟩,fun _ X=>X.heap[L]?=some (.cells #[At0 b] 81 (0,0))/\zY X (L+1) r/\zY X (L+2) zB/\Bw w X,?_,?_⟩
 ·have s1:=wz w (.cells #[At0 b] 81);have s2:=wz (w.alloc (.cells #[At0 b] 81)) (.cells (zf r).toArray 39);have b1:Bw w (w.alloc (.cells #[At0 b] 81)):=zba w _;have b2:=b1.alloc b1.size (.cells (zf r).toArray 39);have h1:=zy w (.cells #[At0 b] 81);have h2:=zy (w.alloc (.cells #[At0 b] 81)) (.cells (zf r).toArray 39);have h3:=zy ((w.alloc (.cells #[At0 b] 81)).alloc (.cells (zf r).toArray 39)) (.cells (zf zB).toArray 39);rw [s1] at h2 s2;rw [s2] at h3;refine⟨(),⟨.cons (by rw [hL];rfl) (.cons (by rw [hL,<- s1];rfl) (.cons (by rw [hL,<- s2];rfl) .nil)),rfl⟩,by rw [hL];exact qJ _ (qJ _ h1),by rw [hL];exact qJ _ h2,by rw [hL];exact h3,b2.alloc b2.size _⟩
 rintro _ X ⟨fB,fR,f0,hbX⟩;have fX:=zb hbX fx;have hvX:=hv.below hbX;refine⟨Unit,fun _=>⟨[(4,At0 (L+2))],[]⟩,fun _ Y=>zY Y (L+2) (zbU x r)/\Bw w Y,?_,?_⟩
 ·refine⟨i64 r.n,by have:=zc (za fR) (i:=0) (v:=i64 r.n) rfl;exact this,?_⟩;have en:zbU x r=zbM x.ev.length fun a d=>zh r a d && !decide ((evA x a).th=(evA x d).th):=by
   unfold zbU;rw [hn];rfl
  rw [hn];refine cmo (zlO (n:=x.ev.length) (caps := #[At0 (L+1),At0 L]) (g:=92) (p:=fun a d=>zh r a d && !decide ((evA x a).th=(evA x d).th)) (by omega) (by kernel_rfl) fun a d Z ha hd hb=>ztl (zb hb fR) hr (zb hb fB) (zb hb fX) (hvX.below hb) ha hd) ?_;rintro e Y ⟨rfl,hbY⟩;rw [<- en];have f0:=zb hbY f0;exact zt (v := .agg (zf (zbU x r)).toArray) k39 f0 (zg _) (zg _) (zE _) ⟨(),(cvE rfl rfl),zn f0,zl ((zst hbX hbY)) (by omega) _⟩
 rintro _ Y ⟨f0,hbY⟩;exact⟨zf (zbU x r),zg _,za f0,rfl,hbY⟩
end
section
variable {b c:Nat} {x:ExD} {q:OA} {w:Wd}
theorem zpT {md:UInt8} (fx:ExH w b x q c) (hv:ExW w x q) (hT:Tz64M w):CB 93 #[At0 b,u8 md] w (.agg (zf (zO x md)).toArray):=by
 refine qk 70 [At0 b,u8 md] (.c .p (.c .p (.c .p (.c .p (.c .p (.c .p (.c .p .p))))))) Tryz.func93 ?_;obtain⟨L,hL⟩:=nm (w.heap.size);have hn:=hv.n;obtain⟨n,hnn⟩:=nm (x.ev.length);refine⟨Unit,fun _=>⟨[(0,At0 b),(1,u8 md),(4,At0 L)],[]⟩,fun _ X=>zY X L zB/\Bw w X,⟨(),⟨.cons rfl (.cons rfl (.cons (by rw [hL];rfl) .nil)),rfl⟩,by rw [hL];exact zy w _,(zba w _)⟩,?_⟩;rintro _ X ⟨f0,hbX⟩;refine⟨Unit,fun _=>⟨[(0,At0 b),(1,u8 md),(4,At0 L),(5,i64 n)],[]⟩,fun _ Y=>X=Y,?_,?_⟩
 ·exact⟨_,zc (za (zb hbX fx)) (i:=0) rfl,(),⟨.cons rfl (.cons rfl (.cons rfl (.cons (by rw [hnn];rfl) .nil))),rfl⟩,rfl⟩
 rintro _ _ rfl;refine⟨Unit,fun _=>⟨[(0,At0 b),(1,u8 md),(4,At0 L),(5,i64 n),(6,.slice none 0 0)],[]⟩,fun _ Y=>X=Y,⟨(),(cvE rfl rfl),rfl⟩,?_⟩;rintro _ _ rfl;obtain⟨pr,hpr⟩:∃ pr:Nat->Bool,pr=fun i=>decide ((evA x i).k=3)&&decide ((evA x i).m=md):=⟨_,rfl⟩;obtain⟨B,hB⟩:=nm (X.heap.size);refine⟨OA×Nat,fun s=>⟨[(0,At0 b),(4,At0 L),(5,i64 n),(6,.slice s.1 ((List.range n).filter pr).length s.2)],[]⟩,fun s V=>OwnS zC 3 B V s.1 s.2 ((List.range n).filter pr)/\Below B X V,?_,?_⟩
 ·refine⟨_,zc (za (zb hbX fx)) (i:=0) rfl,?_⟩;refine⟨Nat×OA×Nat,fun s=>⟨[(0,At0 b),(1,u8 md),(4,At0 L),(5,i64 n),(6,.slice s.2.1 ((List.range s.1).filter pr).length s.2.2),(23,.slice q x.ev.length c),(24,i64 x.ev.length),(25,i64 (s.1:Nat))],[]⟩,fun s V=>s.1<=x.ev.length/\OwnS zC 3 B V s.2.1 s.2.2 ((List.range s.1).filter pr)/\Below B X V,fun s=>x.ev.length-s.1,(0,none,0),
   (cvE rfl rfl),⟨UU _,OwnS.nil,by rw [hB];exact UW _ _⟩,?_⟩
  rintro⟨k,ps,cs⟩ V ⟨hk,oV,hbV⟩;dsimp only at hk oV ⊢;have hVs:B<=V.heap.size:=by have:=hbV.size;omega
  refine biE (fun hc=>?_) fun hc=>?_
  ·have hc:(k:Int)<(x.ev.length:Int):=dT hc;have hkl:k<x.ev.length:=by omega
   have hbwV:=hbX.trans (hbV.mono (by rw [hB];exact hbX.size));obtain⟨bq,oq,hqe,hb,hat⟩:=zcg (hv.ev.below hbwV) hkl;have hfl:(List.range (k+1)).filter pr=(List.range k).filter pr++if pr k=true then [k] else []:=by
    rw [QR,Kt,Qk,List.filter_nil]
   have hprk:pr k=(decide ((evA x k).k=3)&&decide ((evA x k).m=md)):=by rw [hpr]
   have hll2:((List.range k).filter pr).length<=k:=by
    have:=JL pr (List.range k);rw [KS] at this;exact this
   obtain⟨e,he⟩:=nm (evA x k);rw [<- he] at hat hprk;have eq0:some (Value.slice q x.ev.length c)=some (Value.slice (some ⟨bq,oq,none⟩) x.ev.length c):=by rw [hqe]
   subst hqe;refine⟨k,rfl,hkl,evE.enc e,rfl,hat,hb,zo (X:=V) (v := .agg (evE.enc e).toArray) k49 rfl rfl (Qg.2 fun u hu=>evE.one e u hu) fun U hbU fU sU=>?_⟩;have fU:U.heap[V.heap.size]?=some (.cells (evE.enc e).toArray 49 (0,0)):=fU;have oU:=oV.below hbU;have hbU2:=hbV.trans (hbU.mono hVs);have hUs:B<=U.heap.size:=by have:=hbU.size;omega
   have skip:pr k=false->(k+1<=x.ev.length/\OwnS zC 3 B U ps cs ((List.range (k+1)).filter pr)/\Below B X U):=fun h=>⟨hkl,by rw [hfl,h];simpa using oU,hbU2⟩;have skipE:pr k=false->((List.range (k+1)).filter pr).length=((List.range k).filter pr).length:=fun h=>by rw [hfl,h];simp
   refine⟨u8 e.k,zc (za fU) (i:=1) rfl,biE (fun h1=>?_) fun h1=>?_⟩
   ·have h1:e.k=3:=qq.1 (dT h1);refine⟨u8 e.m,zc (za fU) (i:=4) rfl,biE (fun h2=>?_) fun h2=>?_⟩
    ·have h2:e.m=md:=qq.1 (dT h2);have hp1:pr k=true:=(by rw [hprk,Un h1,Un h2];rfl);rw [Gi hp1] at hfl;refine⟨⟨by decide,by decide,rfl⟩,zC.enc k,rfl,?_⟩;have hb2:Bw U (U.alloc (.cells (zC.enc k).toArray 3)):=zba _ _;have sb2:=hb2.size;unfold zdX zax;show SatR _ _;refine zoC (oU.below hb2) (qK zC k) (by omega) (by omega) fun p' c' S oS gS hat2=>?_;rw [zad] at gS;rw [<- hfl] at oS ⊢;exact nxI (by omega) ⟨(k+1,p',c'),(cvE rfl rfl),⟨hkl,oS,hbU2.trans ((hb2.mono hUs).trans (qF (oU.below hb2) (by omega) (UR _) gS))⟩,zdc (by omega)⟩
    ·have h2:¬ e.m=md:=fun e2=>(dF h2) (by rw [e2]);have hp0:pr k=false:=(by rw [hprk,Uc h2,Ud]);exact nxI (by omega) ⟨(k+1,ps,cs),⟨.cons rfl (.cons rfl (.cons rfl (.cons rfl (.cons (by show _=some (Value.slice ps ((List.range (k+1)).filter pr).length cs);rw [skipE hp0];rfl) (.cons rfl (.cons rfl (.cons rfl .nil))))))),rfl⟩,skip hp0,zdc (by omega)⟩
   ·have h1:¬ e.k=3:=fun e2=>(dF h1) (by rw [e2];rfl);have hp0:pr k=false:=(by rw [hprk,Uc h1];rfl);exact brF (nxI (by omega) ⟨(k+1,ps,cs),⟨.cons rfl (.cons rfl (.cons rfl (.cons rfl (.cons (by show _=some (Value.slice ps ((List.range (k+1)).filter pr).length cs);rw [skipE hp0];rfl) (.cons rfl (.cons rfl (.cons rfl .nil))))))),rfl⟩,skip hp0,zdc (by omega)⟩)
  ·have hc:¬ (k:Int)<(x.ev.length:Int):=dF hc;obtain rfl:k=x.ev.length:=by omega
   rw [<- hnn] at oV ⊢;exact⟨(ps,cs),(cvE rfl rfl),oV,hbV⟩
 rintro⟨ps,cs⟩ V ⟨oV,hbV⟩;dsimp only at oV ⊢;have hVs:B<=V.heap.size:=by have:=hbV.size;omega
 have hbwV:=hbX.trans (hbV.mono (by rw [hB];exact hbX.size));have hmask:orG ((List.range n).filter pr)=zan x md:=by rw [hpr,hnn];rfl
 have hlt64:∀ i∈(List.range n).filter pr,i<64:=fun i hi=>by
  have:=Uj.1 (QN.1 hi).1;omega
 have hlen:((List.range n).filter pr).length<=n:=by
  have:=JL pr (List.range n);rw [KS] at this;exact this
 refine⟨Unit,fun _=>⟨[(0,At0 b),(4,At0 L),(5,i64 n),(9,s64 (zan x md))],[]⟩,fun _ Y=>V=Y,?_,?_⟩
 ·refine cmo (zuV oV.row hlt64 (by omega)) ?_;rintro e Y ⟨rfl,rfl⟩;rw [hmask];exact⟨(),(cvE rfl rfl),rfl⟩
 rintro _ _ rfl;have hm64:zan x md<2^64:=by rw [<- hmask];exact zps hlt64
 replace f0:=zb (by subst hB;exact hbV) f0;have fV:=zb hbwV fx;have hvV:=hv.below hbwV;have hTV:=hT.below hbwV;clear oV hbX hbV hlen hlt64 hmask hpr hB hVs;clear B ps cs pr X;have idw:zJ (idR n (zan x md)).to:=fun i hi=>by
  unfold idR;exact zdS (fun i _ _=>KC QT hm64) i hi
 have hba:∀ (A:Wd) (o:Obj),Bw A (A.alloc o):=fun A o=>(zba _ _);refine⟨Nat,fun F=>⟨[(0,At0 b),(4,At0 L),(11,At0 F)],[]⟩,fun F Z=>zY Z F (jk x.po (idR n (zan x md))).1/\zY Z L zB/\Bw w Z,?_,?_⟩
 ·have dV:Bw V V.drew:=(UW _ _).drew;have put:∀ (W:Wd) (b3:Nat),Bw V W->zY W b3 zB->V.heap.size<=b3->∀ {K:Wd->Prop},(∀ Y,(zY Y b3 (jk x.po (idR n (zan x md))).1/\zY Y L zB/\Bw w Y)->K Y) ->
    SatR ((storeVar 39 ⟨b3,0,none⟩ (.agg (zf (jk x.po (idR n (zan x md))).1).toArray)).run PG W) fun _ w'=>K w':=by
   intro W b3 hW f3 g3 K k;refine zt (v := .agg (zf (jk x.po (idR n (zan x md))).1).toArray) k39 f3 (zg _) (zg _) (zE _) ?_;have hL2:=hlt f0;exact k _ ⟨zn f3,(zq (by omega)).trans (zb hW f0),zl ((zst hbwV hW)) (by have:=hbwV.size;omega) _⟩
  refine DrawE.treeQ [12] (.op 0 (.op 1 (.op 2 (.op 3 (.op 4 (.op 5 (.alt (.op 11 (.op 6 (.op 7 (.op 8 (.op 9 (.op 10 (.op 12 (.op 13 (.nil))))))))) (.op 6 (.alt (.op 11 (.op 7 (.op 8 (.op 9 (.op 10 (.op 12 (.op 13 (.nil)))))))) (.op 7 (.op 8 (.op 9 (.op 10 (.op 11 (.op 12 (.op 13 (.nil))))))))))))))))) (by kernel_rfl) ⟨zf x.po,zg _,jD (hdr fV) (i:=0) (by decide) rfl,hlt (hdr fV),Ga ?_ ?_⟩
  ·refine⟨hba _ _,?_⟩;have b1:=dV.alloc (UR _) (.cells (zf zB).toArray 39);refine cmo (zuq (n:=n) (by omega) hm64) ?_;rintro e Y ⟨rfl,hbY⟩;refine⟨hbY,?_⟩;have b2:=zst b1 hbY;refine cmo (zci hvV.po idw (hTV.below b2)) ?_;rintro e Z ⟨rfl,hbZ⟩;exact⟨hbZ,put Z V.heap.size ((zst b2 hbZ)) (zb hbZ (zb hbY (zy V.drew _))) (UR _) (fun Y hY=>⟨V.heap.size,(cvE rfl rfl),hY⟩)⟩
  refine cmo (zuq (n:=n) (by omega) hm64) ?_;rintro e Y ⟨rfl,hbY⟩;refine⟨hbY,?_⟩;have b1:=zst dV hbY;refine Ga ?_ ?_
  ·refine⟨hba _ _,?_⟩;have b2:=b1.alloc b1.size (.cells (zf zB).toArray 39);refine cmo (zci hvV.po idw (hTV.below b2)) ?_;rintro e Z ⟨rfl,hbZ⟩;exact⟨hbZ,put Z Y.heap.size ((zst b2 hbZ)) (zb hbZ (zy Y _)) b1.size (fun V2 hV=>⟨Y.heap.size,(cvE rfl rfl),hV⟩)⟩
  ·refine cmo (zci hvV.po idw (hTV.below b1)) ?_;rintro e Z ⟨rfl,hbZ⟩;refine⟨hbZ,?_⟩;have b2:=zst b1 hbZ;exact⟨hba _ _,put _ Z.heap.size (b2.alloc b2.size _) (zy Z _) b2.size (fun V2 hV=>⟨Z.heap.size,(cvE rfl rfl),hV⟩)⟩
 clear f0 fV hvV hTV hbwV;clear V;rintro F V ⟨f1,f0,hbV⟩;have fV:=zb hbV fx;have hTV:=hT.below hbV;have hFw:=zc7 hv.po idw;have efen:(jk (jk x.po (idR n (zan x md))).1 x.po).1=zO x md:=by rw [hnn];rfl
 refine⟨Nat,fun G=>⟨[(4,At0 L),(13,At0 G)],[]⟩,fun G Z=>zY Z G (zO x md)/\zY Z L zB/\Bw w Z,?_,?_⟩
 ·have dV:Bw V V.drew:=(UW _ _).drew;have put:∀ (W:Wd) (b3:Nat),Bw V W->zY W b3 zB->V.heap.size<=b3->∀ {K:Wd->Prop},(∀ Y,(zY Y b3 (zO x md)/\zY Y L zB/\Bw w Y)->K Y) ->
    SatR ((storeVar 39 ⟨b3,0,none⟩ (.agg (zf (zO x md)).toArray)).run PG W) fun _ w'=>K w':=by
   intro W b3 hW f3 g3 K k;refine zt (v := .agg (zf (zO x md)).toArray) k39 f3 (zg _) (zg _) (zE _) ?_;have hL2:=hlt f0;exact k _ ⟨zn f3,(zq (by omega)).trans (zb hW f0),zl ((zst hbV hW)) (by have:=hbV.size;omega) _⟩
  refine DrawE.treeQ [10] (.op 0 (.op 1 (.op 2 (.op 3 (.op 4 (.alt (.op 9 (.op 5 (.op 6 (.op 7 (.op 8 (.op 10 (.op 11 .nil))))))) (.op 5 (.op 6 (.op 7 (.op 8 (.op 9 (.op 10 (.op 11 .nil))))))))))))) (by kernel_rfl) ⟨zf _,zg _,za (hdr f1),hlt (hdr f1),zf x.po,zg _,jD (hdr fV) (i:=0) (by decide) rfl,hlt (hdr fV),Ga ?_ ?_⟩
  ·refine⟨hba _ _,?_⟩;have b1:=dV.alloc (UR _) (.cells (zf zB).toArray 39);refine cmo (zci hFw hv.po (hTV.below b1)) ?_;rintro e Y ⟨rfl,hbY⟩;refine⟨hbY,?_⟩;rw [efen];exact put Y V.heap.size ((zst b1 hbY)) (zb hbY (zy V.drew _)) (UR _) (fun Y hY=>⟨V.heap.size,(cvE rfl rfl),hY⟩)
  ·refine cmo (zci hFw hv.po (hTV.below dV)) ?_;rintro e Y ⟨rfl,hbY⟩;refine⟨hbY,?_⟩;have b1:=zst dV hbY;refine⟨hba _ _,?_⟩;rw [efen];exact put _ Y.heap.size (b1.alloc b1.size _) (zy Y _) b1.size (fun V2 hV=>⟨Y.heap.size,(cvE rfl rfl),hV⟩)
 rintro G Z ⟨f1,f0,hbZ⟩;exact⟨zf (zO x md),zg _,za f1,hlt f1,zt (v := .agg (zf (zO x md)).toArray) k39 f0 (zg _) (zg _) (zE _) ⟨zf (zO x md),zg _,za (zn f0),rfl,zl hbZ (by omega) _⟩⟩
end
section
variable {w:Wd} {b c:Nat} {x:ExD} {q:OA} {f l s:RelD}
theorem zq4 {a d:Nat}:CB 120 #[At0 b,i64 (a:Nat),i64 (d:Nat)] w (.bool (zcZ 1 x f l s a d)):=by
 refine zF 7 [At0 b,i64 (a:Nat),i64 (d:Nat)] Tryz.func120 ?_;exact⟨rfl,UW _ _⟩
theorem zq3 {a d:Nat}:CB 121 #[At0 b,i64 (a:Nat),i64 (d:Nat)] w (.bool (zcZ 2 x f l s a d)):=by
 refine zF 7 [At0 b,i64 (a:Nat),i64 (d:Nat)] Tryz.func121 ?_;exact⟨rfl,UW _ _⟩
theorem zq2 {a d:Nat} (h:ScnV w b x q c f l s) (ha:a<x.ev.length) (hd:d<x.ev.length):CB 122 #[At0 b,i64 (a:Nat),i64 (d:Nat)] w (.bool (zcZ 3 x f l s a d)):=by
 refine zF 21 [At0 b,i64 (a:Nat),i64 (d:Nat)] Tryz.func122 ?_;have hn:=h.v.n;have hA:a<48:=by omega
 have hD:d<48:=by omega
 have hbw:=UW w.heap.size w;refine cmo (zd9 h ha) ?_;rintro e _ ⟨rfl,rfl⟩;refine biE (fun h1=>?_) fun h1=>?_
 ·have h1:isR x a=true:=h1;exact brT ⟨rb (by show _=(isR x a||(isW x d||zai x f a d));rw [h1];rfl),hbw⟩
 ·have h1:isR x a=false:=h1;refine cmo (jy h hd) ?_;rintro e _ ⟨rfl,rfl⟩;refine biE (fun h2=>?_) fun h2=>?_
  ·have h2:isW x d=true:=h2;exact⟨rb (by show _=(isR x a||(isW x d||zai x f a d));rw [h1,h2];rfl),hbw⟩
  ·have h2:isW x d=false:=h2;refine cmo (zns h ha hd) ?_;rintro e _ ⟨rfl,rfl⟩;exact⟨rb (by show _=(isR x a||(isW x d||zai x f a d));rw [h1,h2];rfl),hbw⟩
theorem zq1 {a d:Nat} (h:ScnV w b x q c f l s) (ha:a<x.ev.length) (hd:d<x.ev.length):CB 126 #[At0 b,i64 (a:Nat),i64 (d:Nat)] w (.bool (zcZ 4 x f l s a d)):=by
 refine zF 37 [At0 b,i64 (a:Nat),i64 (d:Nat)] Tryz.func126 ?_;have hn:=h.v.n;have hA:a<48:=by omega
 have hD:d<48:=by omega
 have hbw:=UW w.heap.size w;refine cmo (zd9 h ha) ?_;rintro e _ ⟨rfl,rfl⟩;refine biE (fun h1=>?_) fun h1=>?_
 ·have h1:isR x a=true:=h1;exact brT ⟨rb (by show _=(isR x a||(zai x f a d||(isW x d&&(zbu x a d||zh s a d))));rw [h1];rfl),hbw⟩
 ·have h1:isR x a=false:=h1;refine cmo (zns h ha hd) ?_;rintro e _ ⟨rfl,rfl⟩;refine biE (fun h2=>?_) fun h2=>?_
  ·have h2:zai x f a d=true:=h2;exact⟨rb (by show _=(isR x a||(zai x f a d||(isW x d&&(zbu x a d||zh s a d))));rw [h1,h2];rfl),hbw⟩
  ·have h2:zai x f a d=false:=h2;refine cmo (jy h hd) ?_;rintro e _ ⟨rfl,rfl⟩;refine biE (fun h3=>?_) fun h3=>?_
   ·have h3:isW x d=true:=h3;refine cmo (zo9 h.cells h.v.ev ha hd) ?_;rintro e Z4 ⟨rfl,hbZ4⟩;have h:=h.below hbZ4;have hbw:=zst hbw hbZ4;refine biE (fun h4=>?_) fun h4=>?_
    ·have h4:zbu x a d=true:=h4;exact⟨rb (by show _=(isR x a||(zai x f a d||(isW x d&&(zbu x a d||zh s a d))));rw [h1,h2,h3,h4];rfl),hbw⟩
    ·have h4:zbu x a d=false:=h4;refine cmo (zT h.stores h.ws hA hD) ?_;rintro e _ ⟨rfl,rfl⟩;exact⟨rb (by show _=(isR x a||(zai x f a d||(isW x d&&(zbu x a d||zh s a d))));rw [h1,h2,h3,h4];rfl),hbw⟩
   ·have h3:isW x d=false:=h3;exact⟨rb (by show _=(isR x a||(zai x f a d||(isW x d&&(zbu x a d||zh s a d))));rw [h1,h2,h3];rfl),hbw⟩
theorem zq0 {a d:Nat} (h:ScnV w b x q c f l s) (ha:a<x.ev.length) (hd:d<x.ev.length):CB 127 #[At0 b,i64 (a:Nat),i64 (d:Nat)] w (.bool (zcZ 5 x f l s a d)):=by
 refine zF 49 [At0 b,i64 (a:Nat),i64 (d:Nat)] Tryz.func127 ?_;have hn:=h.v.n;have hA:a<48:=by omega
 have hD:d<48:=by omega
 have hbw:=UW w.heap.size w;refine cmo (zd9 h ha) ?_;rintro e _ ⟨rfl,rfl⟩;refine biE (fun h1=>?_) fun h1=>?_
 ·have h1:isR x a=true:=h1;refine cmo (zc8 (md:=1) h ha) ?_;rintro e _ ⟨rfl,rfl⟩;refine biE (fun h2=>?_) fun h2=>?_
  ·have h2:zW x a 1=true:=h2;exact brT (brT ⟨rb (by show _=((isR x a&&(zW x a 1||zh l a d))||((isW x d&&(zW x d 2||zh s a d))||zh f a d));rw [h1,h2];rfl),hbw⟩)
  ·have h2:zW x a 1=false:=h2;refine cmo (zT h.loads h.wl hA hD) ?_;rintro e _ ⟨rfl,rfl⟩;refine biE (fun h3=>?_) fun h3=>?_
   ·have h3:zh l a d=true:=h3;exact brT ⟨rb (by show _=((isR x a&&(zW x a 1||zh l a d))||((isW x d&&(zW x d 2||zh s a d))||zh f a d));rw [h1,h2,h3];rfl),hbw⟩
   ·have h3:zh l a d=false:=h3;refine cmo (jy h hd) ?_;rintro e _ ⟨rfl,rfl⟩;refine biE (fun h4=>?_) fun h4=>?_
    ·have h4:isW x d=true:=h4;refine cmo (zc8 (md:=2) h hd) ?_;rintro e _ ⟨rfl,rfl⟩;refine biE (fun h5=>?_) fun h5=>?_
     ·have h5:zW x d 2=true:=h5;exact brT ⟨rb (by show _=((isR x a&&(zW x a 1||zh l a d))||((isW x d&&(zW x d 2||zh s a d))||zh f a d));rw [h1,h2,h3,h4,h5];rfl),hbw⟩
     ·have h5:zW x d 2=false:=h5;refine cmo (zT h.stores h.ws hA hD) ?_;rintro e _ ⟨rfl,rfl⟩;refine biE (fun h6=>?_) fun h6=>?_
      ·have h6:zh s a d=true:=h6;exact⟨rb (by show _=((isR x a&&(zW x a 1||zh l a d))||((isW x d&&(zW x d 2||zh s a d))||zh f a d));rw [h1,h2,h3,h4,h5,h6];rfl),hbw⟩
      ·have h6:zh s a d=false:=h6;refine cmo (zT h.full h.wf hA hD) ?_;rintro e _ ⟨rfl,rfl⟩;exact⟨rb (by show _=((isR x a&&(zW x a 1||zh l a d))||((isW x d&&(zW x d 2||zh s a d))||zh f a d));rw [h1,h2,h3,h4,h5,h6];rfl),hbw⟩
    ·have h4:isW x d=false:=h4;refine brF (cmo (zT h.full h.wf hA hD) ?_);rintro e _ ⟨rfl,rfl⟩;exact⟨rb (by show _=((isR x a&&(zW x a 1||zh l a d))||((isW x d&&(zW x d 2||zh s a d))||zh f a d));rw [h1,h2,h3,h4];rfl),hbw⟩
 ·have h1:isR x a=false:=h1;refine brF (cmo (jy h hd) ?_);rintro e _ ⟨rfl,rfl⟩;refine biE (fun h9=>?_) fun h9=>?_
  ·have h9:isW x d=true:=h9;refine cmo (zc8 (md:=2) h hd) ?_;rintro e _ ⟨rfl,rfl⟩;refine biE (fun h10=>?_) fun h10=>?_
   ·have h10:zW x d 2=true:=h10;exact brT ⟨rb (by show _=((isR x a&&(zW x a 1||zh l a d))||((isW x d&&(zW x d 2||zh s a d))||zh f a d));rw [h1,h9,h10];rfl),hbw⟩
   ·have h10:zW x d 2=false:=h10;refine cmo (zT h.stores h.ws hA hD) ?_;rintro e _ ⟨rfl,rfl⟩;refine biE (fun h11=>?_) fun h11=>?_
    ·have h11:zh s a d=true:=h11;exact⟨rb (by show _=((isR x a&&(zW x a 1||zh l a d))||((isW x d&&(zW x d 2||zh s a d))||zh f a d));rw [h1,h9,h10,h11];rfl),hbw⟩
    ·have h11:zh s a d=false:=h11;refine cmo (zT h.full h.wf hA hD) ?_;rintro e _ ⟨rfl,rfl⟩;exact⟨rb (by show _=((isR x a&&(zW x a 1||zh l a d))||((isW x d&&(zW x d 2||zh s a d))||zh f a d));rw [h1,h9,h10,h11];rfl),hbw⟩
  ·have h9:isW x d=false:=h9;refine brF (cmo (zT h.full h.wf hA hD) ?_);rintro e _ ⟨rfl,rfl⟩;exact⟨rb (by show _=((isR x a&&(zW x a 1||zh l a d))||((isW x d&&(zW x d 2||zh s a d))||zh f a d));rw [h1,h9];rfl),hbw⟩
theorem zqZ {a d:Nat} (h:ScnV w b x q c f l s) (ha:a<x.ev.length) (hd:d<x.ev.length):CB 129 #[At0 b,i64 (a:Nat),i64 (d:Nat)] w (.bool (zcZ 6 x f l s a d)):=by
 refine zF 81 [At0 b,i64 (a:Nat),i64 (d:Nat)] Tryz.func129 ?_;have hn:=h.v.n;have hA:a<48:=by omega
 have hD:d<48:=by omega
 have hbw:=UW w.heap.size w;refine cmo (zT (zfr h.cells (ztm x q c)) h.v.dt hA hD) ?_;rintro e _ ⟨rfl,rfl⟩;refine biE (fun h1=>?_) fun h1=>?_
 ·have h1:zh x.dt a d=true:=h1;exact brT (brT (brT (brT ⟨rb (by show _=(zh x.dt a d||((zh x.ct a d&&isW x d)||(zh x.rm a d||(zh f a d||((zh l a d&&(isR x a&&isR x d))||(zh s a d&&(isW x a&&isW x d)))))));rw [h1];rfl),hbw⟩)))
 ·have h1:zh x.dt a d=false:=h1;refine cmo (zT (zfr h.cells (ztn x q c)) h.v.ct hA hD) ?_;rintro e _ ⟨rfl,rfl⟩;refine biE (fun h2=>?_) fun h2=>?_
  ·have h2:zh x.ct a d=true:=h2;refine cmo (jy h hd) ?_;rintro e _ ⟨rfl,rfl⟩;refine biE (fun h3=>?_) fun h3=>?_
   ·have h3:isW x d=true:=h3;exact brT (brT (brT ⟨rb (by show _=(zh x.dt a d||((zh x.ct a d&&isW x d)||(zh x.rm a d||(zh f a d||((zh l a d&&(isR x a&&isR x d))||(zh s a d&&(isW x a&&isW x d)))))));rw [h1,h2,h3];rfl),hbw⟩))
   ·have h3:isW x d=false:=h3;refine cmo (zT (zfr h.cells (zpV x q c)) h.v.rm hA hD) ?_;rintro e _ ⟨rfl,rfl⟩;refine biE (fun h4=>?_) fun h4=>?_
    ·have h4:zh x.rm a d=true:=h4;exact brT (brT ⟨rb (by show _=(zh x.dt a d||((zh x.ct a d&&isW x d)||(zh x.rm a d||(zh f a d||((zh l a d&&(isR x a&&isR x d))||(zh s a d&&(isW x a&&isW x d)))))));rw [h1,h2,h3,h4];rfl),hbw⟩)
    ·have h4:zh x.rm a d=false:=h4;refine cmo (zT h.full h.wf hA hD) ?_;rintro e _ ⟨rfl,rfl⟩;refine biE (fun h5=>?_) fun h5=>?_
     ·have h5:zh f a d=true:=h5;exact brT ⟨rb (by show _=(zh x.dt a d||((zh x.ct a d&&isW x d)||(zh x.rm a d||(zh f a d||((zh l a d&&(isR x a&&isR x d))||(zh s a d&&(isW x a&&isW x d)))))));rw [h1,h2,h3,h4,h5];rfl),hbw⟩
     ·have h5:zh f a d=false:=h5;refine cmo (zT h.loads h.wl hA hD) ?_;rintro e _ ⟨rfl,rfl⟩;refine biE (fun h6=>?_) fun h6=>?_
      ·have h6:zh l a d=true:=h6;refine cmo (zd9 h ha) ?_;rintro e _ ⟨rfl,rfl⟩;refine biE (fun h7=>?_) fun h7=>?_
       ·have h7:isR x a=true:=h7;refine cmo (zd9 h hd) ?_;rintro e _ ⟨rfl,rfl⟩;refine biE (fun h8=>?_) fun h8=>?_
        ·have h8:isR x d=true:=h8;exact⟨rb (by show _=(zh x.dt a d||((zh x.ct a d&&isW x d)||(zh x.rm a d||(zh f a d||((zh l a d&&(isR x a&&isR x d))||(zh s a d&&(isW x a&&isW x d)))))));rw [h1,h2,h3,h4,h5,h6,h7,h8];rfl),hbw⟩
        ·have h8:isR x d=false:=h8;refine cmo (zT h.stores h.ws hA hD) ?_;rintro e _ ⟨rfl,rfl⟩;refine biE (fun h9=>?_) fun h9=>?_
         ·have h9:zh s a d=true:=h9;refine cmo (jy h ha) ?_;rintro e _ ⟨rfl,rfl⟩;refine biE (fun h10=>?_) fun h10=>?_
          ·have h10:isW x a=true:=h10;refine cmo (jy h hd) ?_;rintro e _ ⟨rfl,rfl⟩;exact⟨rb (by show _=(zh x.dt a d||((zh x.ct a d&&isW x d)||(zh x.rm a d||(zh f a d||((zh l a d&&(isR x a&&isR x d))||(zh s a d&&(isW x a&&isW x d)))))));rw [h1,h2,h3,h4,h5,h6,h7,h8,h9,h10];rfl),hbw⟩
          ·have h10:isW x a=false:=h10;exact⟨rb (by show _=(zh x.dt a d||((zh x.ct a d&&isW x d)||(zh x.rm a d||(zh f a d||((zh l a d&&(isR x a&&isR x d))||(zh s a d&&(isW x a&&isW x d)))))));rw [h1,h2,h3,h4,h5,h6,h7,h8,h9,h10];rfl),hbw⟩
         ·have h9:zh s a d=false:=h9;exact brF ⟨rb (by show _=(zh x.dt a d||((zh x.ct a d&&isW x d)||(zh x.rm a d||(zh f a d||((zh l a d&&(isR x a&&isR x d))||(zh s a d&&(isW x a&&isW x d)))))));rw [h1,h2,h3,h4,h5,h6,h7,h8,h9];rfl),hbw⟩
       ·have h7:isR x a=false:=h7;refine brF (cmo (zT h.stores h.ws hA hD) ?_);rintro e _ ⟨rfl,rfl⟩;refine biE (fun h12=>?_) fun h12=>?_
        ·have h12:zh s a d=true:=h12;refine cmo (jy h ha) ?_;rintro e _ ⟨rfl,rfl⟩;refine biE (fun h13=>?_) fun h13=>?_
         ·have h13:isW x a=true:=h13;refine cmo (jy h hd) ?_;rintro e _ ⟨rfl,rfl⟩;exact⟨rb (by show _=(zh x.dt a d||((zh x.ct a d&&isW x d)||(zh x.rm a d||(zh f a d||((zh l a d&&(isR x a&&isR x d))||(zh s a d&&(isW x a&&isW x d)))))));rw [h1,h2,h3,h4,h5,h6,h7,h12,h13];rfl),hbw⟩
         ·have h13:isW x a=false:=h13;exact⟨rb (by show _=(zh x.dt a d||((zh x.ct a d&&isW x d)||(zh x.rm a d||(zh f a d||((zh l a d&&(isR x a&&isR x d))||(zh s a d&&(isW x a&&isW x d)))))));rw [h1,h2,h3,h4,h5,h6,h7,h12,h13];rfl),hbw⟩
        ·have h12:zh s a d=false:=h12;exact brF ⟨rb (by show _=(zh x.dt a d||((zh x.ct a d&&isW x d)||(zh x.rm a d||(zh f a d||((zh l a d&&(isR x a&&isR x d))||(zh s a d&&(isW x a&&isW x d)))))));rw [h1,h2,h3,h4,h5,h6,h7,h12];rfl),hbw⟩
      ·have h6:zh l a d=false:=h6;refine brF (brF (cmo (zT h.stores h.ws hA hD) ?_));rintro e _ ⟨rfl,rfl⟩;refine biE (fun h15=>?_) fun h15=>?_
       ·have h15:zh s a d=true:=h15;refine cmo (jy h ha) ?_;rintro e _ ⟨rfl,rfl⟩;refine biE (fun h16=>?_) fun h16=>?_
        ·have h16:isW x a=true:=h16;refine cmo (jy h hd) ?_;rintro e _ ⟨rfl,rfl⟩;exact⟨rb (by show _=(zh x.dt a d||((zh x.ct a d&&isW x d)||(zh x.rm a d||(zh f a d||((zh l a d&&(isR x a&&isR x d))||(zh s a d&&(isW x a&&isW x d)))))));rw [h1,h2,h3,h4,h5,h6,h15,h16];rfl),hbw⟩
        ·have h16:isW x a=false:=h16;exact⟨rb (by show _=(zh x.dt a d||((zh x.ct a d&&isW x d)||(zh x.rm a d||(zh f a d||((zh l a d&&(isR x a&&isR x d))||(zh s a d&&(isW x a&&isW x d)))))));rw [h1,h2,h3,h4,h5,h6,h15,h16];rfl),hbw⟩
       ·have h15:zh s a d=false:=h15;exact brF ⟨rb (by show _=(zh x.dt a d||((zh x.ct a d&&isW x d)||(zh x.rm a d||(zh f a d||((zh l a d&&(isR x a&&isR x d))||(zh s a d&&(isW x a&&isW x d)))))));rw [h1,h2,h3,h4,h5,h6,h15];rfl),hbw⟩
  ·have h2:zh x.ct a d=false:=h2;refine brF (cmo (zT (zfr h.cells (zpV x q c)) h.v.rm hA hD) ?_);rintro e _ ⟨rfl,rfl⟩;refine biE (fun h18=>?_) fun h18=>?_
   ·have h18:zh x.rm a d=true:=h18;exact brT (brT ⟨rb (by show _=(zh x.dt a d||((zh x.ct a d&&isW x d)||(zh x.rm a d||(zh f a d||((zh l a d&&(isR x a&&isR x d))||(zh s a d&&(isW x a&&isW x d)))))));rw [h1,h2,h18];rfl),hbw⟩)
   ·have h18:zh x.rm a d=false:=h18;refine cmo (zT h.full h.wf hA hD) ?_;rintro e _ ⟨rfl,rfl⟩;refine biE (fun h19=>?_) fun h19=>?_
    ·have h19:zh f a d=true:=h19;exact brT ⟨rb (by show _=(zh x.dt a d||((zh x.ct a d&&isW x d)||(zh x.rm a d||(zh f a d||((zh l a d&&(isR x a&&isR x d))||(zh s a d&&(isW x a&&isW x d)))))));rw [h1,h2,h18,h19];rfl),hbw⟩
    ·have h19:zh f a d=false:=h19;refine cmo (zT h.loads h.wl hA hD) ?_;rintro e _ ⟨rfl,rfl⟩;refine biE (fun h20=>?_) fun h20=>?_
     ·have h20:zh l a d=true:=h20;refine cmo (zd9 h ha) ?_;rintro e _ ⟨rfl,rfl⟩;refine biE (fun h21=>?_) fun h21=>?_
      ·have h21:isR x a=true:=h21;refine cmo (zd9 h hd) ?_;rintro e _ ⟨rfl,rfl⟩;refine biE (fun h22=>?_) fun h22=>?_
       ·have h22:isR x d=true:=h22;exact⟨rb (by show _=(zh x.dt a d||((zh x.ct a d&&isW x d)||(zh x.rm a d||(zh f a d||((zh l a d&&(isR x a&&isR x d))||(zh s a d&&(isW x a&&isW x d)))))));rw [h1,h2,h18,h19,h20,h21,h22];rfl),hbw⟩
       ·have h22:isR x d=false:=h22;refine cmo (zT h.stores h.ws hA hD) ?_;rintro e _ ⟨rfl,rfl⟩;refine biE (fun h23=>?_) fun h23=>?_
        ·have h23:zh s a d=true:=h23;refine cmo (jy h ha) ?_;rintro e _ ⟨rfl,rfl⟩;refine biE (fun h24=>?_) fun h24=>?_
         ·have h24:isW x a=true:=h24;refine cmo (jy h hd) ?_;rintro e _ ⟨rfl,rfl⟩;exact⟨rb (by show _=(zh x.dt a d||((zh x.ct a d&&isW x d)||(zh x.rm a d||(zh f a d||((zh l a d&&(isR x a&&isR x d))||(zh s a d&&(isW x a&&isW x d)))))));rw [h1,h2,h18,h19,h20,h21,h22,h23,h24];rfl),hbw⟩
         ·have h24:isW x a=false:=h24;exact⟨rb (by show _=(zh x.dt a d||((zh x.ct a d&&isW x d)||(zh x.rm a d||(zh f a d||((zh l a d&&(isR x a&&isR x d))||(zh s a d&&(isW x a&&isW x d)))))));rw [h1,h2,h18,h19,h20,h21,h22,h23,h24];rfl),hbw⟩
        ·have h23:zh s a d=false:=h23;exact brF ⟨rb (by show _=(zh x.dt a d||((zh x.ct a d&&isW x d)||(zh x.rm a d||(zh f a d||((zh l a d&&(isR x a&&isR x d))||(zh s a d&&(isW x a&&isW x d)))))));rw [h1,h2,h18,h19,h20,h21,h22,h23];rfl),hbw⟩
      ·have h21:isR x a=false:=h21;refine brF (cmo (zT h.stores h.ws hA hD) ?_);rintro e _ ⟨rfl,rfl⟩;refine biE (fun h26=>?_) fun h26=>?_
       ·have h26:zh s a d=true:=h26;refine cmo (jy h ha) ?_;rintro e _ ⟨rfl,rfl⟩;refine biE (fun h27=>?_) fun h27=>?_
        ·have h27:isW x a=true:=h27;refine cmo (jy h hd) ?_;rintro e _ ⟨rfl,rfl⟩;exact⟨rb (by show _=(zh x.dt a d||((zh x.ct a d&&isW x d)||(zh x.rm a d||(zh f a d||((zh l a d&&(isR x a&&isR x d))||(zh s a d&&(isW x a&&isW x d)))))));rw [h1,h2,h18,h19,h20,h21,h26,h27];rfl),hbw⟩
        ·have h27:isW x a=false:=h27;exact⟨rb (by show _=(zh x.dt a d||((zh x.ct a d&&isW x d)||(zh x.rm a d||(zh f a d||((zh l a d&&(isR x a&&isR x d))||(zh s a d&&(isW x a&&isW x d)))))));rw [h1,h2,h18,h19,h20,h21,h26,h27];rfl),hbw⟩
       ·have h26:zh s a d=false:=h26;exact brF ⟨rb (by show _=(zh x.dt a d||((zh x.ct a d&&isW x d)||(zh x.rm a d||(zh f a d||((zh l a d&&(isR x a&&isR x d))||(zh s a d&&(isW x a&&isW x d)))))));rw [h1,h2,h18,h19,h20,h21,h26];rfl),hbw⟩
     ·have h20:zh l a d=false:=h20;refine brF (brF (cmo (zT h.stores h.ws hA hD) ?_));rintro e _ ⟨rfl,rfl⟩;refine biE (fun h29=>?_) fun h29=>?_
      ·have h29:zh s a d=true:=h29;refine cmo (jy h ha) ?_;rintro e _ ⟨rfl,rfl⟩;refine biE (fun h30=>?_) fun h30=>?_
       ·have h30:isW x a=true:=h30;refine cmo (jy h hd) ?_;rintro e _ ⟨rfl,rfl⟩;exact⟨rb (by show _=(zh x.dt a d||((zh x.ct a d&&isW x d)||(zh x.rm a d||(zh f a d||((zh l a d&&(isR x a&&isR x d))||(zh s a d&&(isW x a&&isW x d)))))));rw [h1,h2,h18,h19,h20,h29,h30];rfl),hbw⟩
       ·have h30:isW x a=false:=h30;exact⟨rb (by show _=(zh x.dt a d||((zh x.ct a d&&isW x d)||(zh x.rm a d||(zh f a d||((zh l a d&&(isR x a&&isR x d))||(zh s a d&&(isW x a&&isW x d)))))));rw [h1,h2,h18,h19,h20,h29,h30];rfl),hbw⟩
      ·have h29:zh s a d=false:=h29;exact brF ⟨rb (by show _=(zh x.dt a d||((zh x.ct a d&&isW x d)||(zh x.rm a d||(zh f a d||((zh l a d&&(isR x a&&isR x d))||(zh s a d&&(isW x a&&isW x d)))))));rw [h1,h2,h18,h19,h20,h29];rfl),hbw⟩
end
abbrev zcK:List Value:=[.nilFunc,.func (.func 120) #[] #[],.func (.func 121) #[] #[],.func (.func 122) #[] #[],.func (.func 126) #[] #[],.func (.func 127) #[] #[],.func (.func 129) #[] #[]]
section
variable {b c:Nat} {x:ExD} {q:OA} {w:Wd} {f l s:RelD}
theorem zqY:CB 94 #[] w (.agg zcK.toArray):=by
 refine qk 8 [] (.c .p .p) Tryz.func94 ?_;obtain⟨L,hL⟩:=nm (w.heap.size);refine⟨Unit,fun _=>⟨[(0,At0 L)],[]⟩,fun _ X=>X.heap[L]?=some (.cells #[.nilFunc,.nilFunc,.nilFunc,.nilFunc,.nilFunc,.nilFunc,.nilFunc] 162 (0,0))/\Bw w X,⟨(),⟨.cons (by rw [hL];rfl) .nil,rfl⟩,by rw [hL];exact zy w _,(zba w _)⟩,?_⟩;rintro _ X ⟨f0,hbX⟩;refine⟨[.func (.func 120) #[] #[]],by kernel_rfl,?_⟩;refine⟨[.func (.func 121) #[] #[]],by kernel_rfl,?_⟩;refine⟨[.func (.func 122) #[] #[]],by kernel_rfl,?_⟩;refine⟨[.func (.func 126) #[] #[]],by kernel_rfl,?_⟩;refine⟨[.func (.func 127) #[] #[]],by kernel_rfl,?_⟩;refine⟨[.func (.func 129) #[] #[]],by kernel_rfl,?_⟩;refine⟨zcK,by kernel_rfl,?_⟩;refine zt (v := .agg zcK.toArray) zub f0 rfl rfl rfl ?_;exact⟨zcK,rfl,za (zn f0),rfl,zl hbX (by omega) _⟩
theorem zdH {S Rb Mb Sv g a d:Nat} {m:UInt8} {K:Bool} (hs:ScnV w S x q c f l s) (fSv:w.heap[Sv]?=some (.cells #[At0 S] 155 (0,0))) (fR:w.heap[Rb]?=some (.cells zcK.toArray 162 (0,0))) (fM:w.heap[Mb]?=some (.cells #[u8 m] 5 (0,0)))
  (hm7:m.toNat<7) (hm:zcK[m.toNat]?=some (.func (.func g) #[] #[])) (hok:jP (sg 0) g=true) (hK:∀ X,Bw w X->Calls PG g #[At0 S,i64 (a:Nat),i64 (d:Nat)] X fun e Y=>e = .returned (.bool K)/\Bw X Y) (ha:a<x.ev.length) (hd:d<x.ev.length) :
  CB 95 #[i64 (a:Nat),i64 (d:Nat),At0 Sv,At0 Rb,At0 Mb] w (.bool (zh x.po a d&&(zaj x a&&(zaj x d&&K)))):=by
 refine zF 47 [i64 (a:Nat),i64 (d:Nat),At0 Sv,At0 Rb,At0 Mb] Tryz.func95 ?_;have hn:=hs.v.n;have fx:=hs.cells;obtain⟨bq,oq,hqe,hb,hat⟩:=zcg hs.v.ev ha;obtain⟨bq2,oq2,hqe2,hb2,hat2⟩:=zcg hs.v.ev hd;rw [hqe] at hqe2;simp only [KW,Up,Gc] at hqe2;rw [<- hqe2.1,<- hqe2.2] at hat2;have hpo:=hs.v.po;subst hqe;have dw:Bw w w.drew:=(UW _ _).drew;refine DrawE.ord [] [0,1,2,3,4,5,6,7,8,9,10,11,12,13,14,15,16,17,18,19,20,21,22,23,24,25,26,27,28,29,30,31,32,33,34,35,36,37,38,39] (by kernel_rfl) ?_;refine⟨At0 S,zc (za (hdr fSv)) (i:=0) rfl,?_⟩;refine cmo (zT (zfr (zr dw fx) (zpW x _ c)) hpo (by omega) (by omega)) ?_;rintro e _ ⟨rfl,rfl⟩;refine⟨UW _ _,?_⟩;refine biE (fun h1=>?_) fun h1=>?_
 ·have h1:zh x.po a d=true:=h1;refine⟨At0 S,zc (za (hdr fSv)) (i:=0) rfl,?_⟩;refine⟨_,zap (zr dw fx),?_⟩;refine⟨a,rfl,ha,?_⟩;refine⟨evE.enc (evA x a),rfl,zr dw hat,nL hb dw.size,?_⟩;refine cmo ze2 ?_;rintro e X ⟨rfl,hbX⟩;refine⟨hbX,?_⟩;have bX:=dw.trans hbX;rw [zjB];refine biE (fun h2=>?_) fun h2=>?_
  ·have h2:zaj x a=true:=h2;refine⟨At0 S,zc (za (zb bX fSv)) (i:=0) rfl,?_⟩;refine⟨_,zap (zr bX fx),?_⟩;refine⟨d,rfl,hd,?_⟩;refine⟨evE.enc (evA x d),rfl,zr bX hat2,nL hb bX.size,?_⟩;refine cmo ze2 ?_;rintro e Y ⟨rfl,hbY⟩;refine⟨hbY,?_⟩;have bY:=zst bX hbY;rw [zjB];refine biE (fun h3=>?_) fun h3=>?_
   ·have h3:zaj x d=true:=h3;refine⟨u8 m,zc (za (zb bY fM)) (i:=0) rfl,?_⟩;refine⟨m.toNat,rfl,hm7,?_⟩;refine⟨.func (.func g) #[] #[],by have:=zc (za (zb bY fR)) (i:=m.toNat) (v := .func (.func g) #[] #[]) hm;rw [US];exact this,?_⟩;refine⟨At0 S,zc (za (zb bY fSv)) (i:=0) rfl,?_⟩;refine zhC hok (hK Y bY) ?_;rintro e Z ⟨rfl,hbZ⟩;refine⟨_,rfl,hbZ,?_⟩;exact⟨rb (by rw [h1,h2,h3];rfl),(zst bY hbZ)⟩
   ·have h3:zaj x d=false:=h3;exact⟨rb (by rw [h1,h2,h3];rfl),bY⟩
  ·have h2:zaj x a=false:=h2;refine brF ?_;exact⟨rb (by rw [h1,h2];rfl),bX⟩
 ·have h1:zh x.po a d=false:=h1;refine brF ?_;refine brF ?_;exact⟨rb (by rw [h1];rfl),dw⟩
theorem zkB {m:UInt8} (h:zab m.toNat=true):m=1\/m=2\/m=3\/m=4\/m=5\/m=6:=by
 unfold zab at h;rw [bAT,dE,dE] at h;simp only [<- Ub];show m.toNat=1\/m.toNat=2\/m.toNat=3\/m.toNat=4\/m.toNat=5\/m.toNat=6;omega
theorem zrm {S Rb Mb Sv a d:Nat} {m:UInt8} (hk:zab m.toNat=true) (hs:ScnV w S x q c f l s) (fSv:w.heap[Sv]?=some (.cells #[At0 S] 155 (0,0))) (fR:w.heap[Rb]?=some (.cells zcK.toArray 162 (0,0))) (fM:w.heap[Mb]?=some (.cells #[u8 m] 5 (0,0)))
  (ha:a<x.ev.length) (hd:d<x.ev.length) :
  CB 95 #[i64 (a:Nat),i64 (d:Nat),At0 Sv,At0 Rb,At0 Mb] w (.bool (zh x.po a d&&(zaj x a&&(zaj x d&&zcZ m.toNat x f l s a d)))):=by
 rcases zkB hk with rfl | rfl | rfl | rfl | rfl | rfl
 ·exact zdH (g:=120) hs fSv fR fM (by decide) rfl (by kernel_rfl) (fun X hb=>zq4) ha hd
 ·exact zdH (g:=121) hs fSv fR fM (by decide) rfl (by kernel_rfl) (fun X hb=>zq3) ha hd
 ·exact zdH (g:=122) hs fSv fR fM (by decide) rfl (by kernel_rfl) (fun X hb=>zq2 (hs.below hb) ha hd) ha hd
 ·exact zdH (g:=126) hs fSv fR fM (by decide) rfl (by kernel_rfl) (fun X hb=>zq1 (hs.below hb) ha hd) ha hd
 ·exact zdH (g:=127) hs fSv fR fM (by decide) rfl (by kernel_rfl) (fun X hb=>zq0 (hs.below hb) ha hd) ha hd
 ·exact zdH (g:=129) hs fSv fR fM (by decide) rfl (by kernel_rfl) (fun X hb=>zqZ (hs.below hb) ha hd) ha hd
theorem zi4 {X:Wd} {S o:Nat} {T:TypeId} {A Z:List Value} {r0 r:RelD} (h:X.heap[S]?=some (.cells (A++(zf r0++Z)).toArray T (0,0))) (hA:A.length=o) {K:Wd->Prop}
  (k:∀ Y,Y.heap[S]?=some (.cells (A++(zf r++Z)).toArray T (0,0))->X.grownBy Y (some S)->Y.heap.size=X.heap.size->K Y) :
  SatR ((storeVar 39 ⟨S,0+o,none⟩ (.agg (zf r).toArray)).run PG X) fun _ w'=>K w':=by
 rw [UM];refine jZ k39 h (o:=o) (v := .agg (zf r).toArray) (zg _) (by show o+(zf r).length<=(A++(zf r0++Z)).length;rw [lap,lap,zg,zg];omega) (zE _) fun Y fY gY sY=>k Y (fY.trans ?_) gY sY;show some (Obj.cells ((A++(zf r0++Z)).take o++zf r++(A++(zf r0++Z)).drop (o+(zf r).length)).toArray T (0,0))=_;congr 3;rw [<- hA,List.take_left,zg,KL,<- Uf,Ug,<- zg r0,Ug]
theorem ztf {m:UInt8} (hk:zab m.toNat=true) (fx:ExH w b x q c) (hv:ExW w x q) (hT:Tz64M w):CB 57 #[u8 m,At0 b] w (.agg (zf (jW m.toNat x)).toArray):=by
 refine qk 35 [u8 m,At0 b] (.c .p (.c .p (.c .p (.c .p (.c .p .p))))) Tryz.func57 ?_;obtain⟨L,hL⟩:=nm (w.heap.size);have hn:=hv.n;refine⟨Unit,fun _=>⟨[(1,At0 b),(2,At0 L),(4,At0 (L+1))],[]⟩,fun _ X=>X.heap[L]?=some (.cells #[u8 m] 5 (0,0))/\zY X (L+1) zB/\X.heap.size=L+2/\Bw w X,?_,?_⟩
 ·have s1:=wz w (.cells #[u8 m] 5);have h2:=zy (w.alloc (.cells #[u8 m] 5)) (.cells (zf zB).toArray 39);have s2:=wz (w.alloc (.cells #[u8 m] 5)) (.cells (zf zB).toArray 39);rw [s1] at h2 s2;have b1:Bw w (w.alloc (.cells #[u8 m] 5)):=zba w _;exact⟨(),⟨.cons rfl (.cons (by rw [hL];rfl) (.cons (by rw [hL,<- s1];rfl) .nil)),rfl⟩,by rw [hL];exact qJ _ (zy w _),by rw [hL];exact h2,by rw [hL];exact s2,b1.alloc b1.size _⟩
 rintro _ X ⟨fM,f0,sX,hbX⟩;have fX:=zb hbX fx;refine⟨Unit,fun _=>⟨[(1,At0 b),(2,At0 L),(4,At0 (L+1)),(5,At0 (L+3))],[]⟩,fun _ Y=>Y.heap[L+2]?=some (.cells (exC x q c++(zf zB++(zf zB++zf zB))).toArray 157 (0,0))/\Y.heap[L+3]?=some (.cells #[At0 (L+2)] 155 (0,0))/\Y.heap.size=L+4/\Bw X Y,?_,?_⟩
 ·refine⟨exC x q c,zD _ _ _,za fX,hlt fX,?_⟩;refine⟨exC x q c++(zf zB++(zf zB++zf zB)),by kernel_rfl,?_⟩;have s3:=wz X (.cells (exC x q c++(zf zB++(zf zB++zf zB))).toArray 157);refine zo (X:=X.alloc (.cells (exC x q c++(zf zB++(zf zB++zf zB))).toArray 157)) (v := .pointer (some ⟨X.heap.size,0,none⟩)) zuK rfl rfl rfl fun Z hbZ fZ sZ=>?_;rw [s3] at fZ sZ;rw [sX] at fZ sZ s3;have b1:Bw X (X.alloc (.cells (exC x q c++(zf zB++(zf zB++zf zB))).toArray 157)):=zba X _;refine⟨(),⟨.cons rfl (.cons rfl (.cons rfl (.cons (by rw [<- s3];rfl) .nil))),rfl⟩,?_,fZ,sZ,(zst b1 hbZ)⟩;refine zb hbZ ?_;rw [<- sX];exact zy X _
 rintro _ Y ⟨fS,fP,sY,hbY⟩;have hbwY:=zst hbX hbY;have fY:=zb hbwY fx;replace fM:=zb hbY fM;replace f0:=zb hbY f0;have hwX:=hbX.size;have hbL:b<L:=by rw [hL];exact hlt fx
 refine⟨Unit,fun _=>⟨[(1,At0 b),(2,At0 L),(4,At0 (L+1)),(5,At0 (L+3))],[]⟩,fun _ Z=>ScnV Z (L+2) x q c (zO x 3) (zO x 4) (zO x 5)/\Z.heap[L+3]?=some (.cells #[At0 (L+2)] 155 (0,0))/\Z.heap[L]?=some (.cells #[u8 m] 5 (0,0))/\zY Z (L+1) zB/\ExH Z b x q c/\L+4<=Z.heap.size/\Bw w Z,?_,?_⟩
 ·have dY:Bw Y Y.drew:=(UW _ _).drew;obtain⟨Y1,hY1⟩:=nm (Y.drew);have bY1:Bw Y Y1:=by rw [hY1];exact dY
  have ld0:∀ {W},Bw Y W->W.cell? ⟨L+3,0,none⟩=some (At0 (L+2)):=fun hW=>by
   have h2:=zc (za (zb hW fP)) (i:=0) (v:=At0 (L+2)) rfl;exact h2
  have fen:∀ (md:UInt8) {W},Bw Y W->CB 93 #[At0 b,u8 md] W (.agg (zf (zO x md)).toArray):=fun md {W} hW =>
   have h2:=zst hbwY hW
   zpT (zb h2 fx) (hv.below h2) (hT.below h2)
  have ld1:∀ W,(∃ C,Bw Y C/\C.grownBy W (some (L+2)))->W.cell? ⟨L+3,0,none⟩=some (At0 (L+2)):=fun W ⟨C,bC,hW⟩=>by
   have fPC:=zb bC fP;have:=(hW.block (L+3) (hlt fPC) (by simp)).trans fPC;have h2:=zc (za this) (i:=0) (v:=At0 (L+2)) rfl;exact h2
  have s1:∀ {C},Bw Y C->∀ {K:Wd->Prop},(∀ D,(D.heap[L+2]?=some (.cells ((exC x q c++zf (zO x 3))++(zf zB++zf zB)).toArray 157 (0,0))/\∃ C,Bw Y C/\C.grownBy D (some (L+2)))->K D)->SatR ((storeVar 39 ⟨L+2,0+333,none⟩ (.agg (zf (zO x 3)).toArray)).run PG C) fun _ w'=>K w':=fun {C} bC {K} k =>
   zi4 (o:=333) (A:=exC x q c) (Z:=zf zB++zf zB) (r:=zO x 3) (zb bC fS) (zD _ _ _) fun D fD gD sD=>k D ⟨by rw [fD];simp only [KL],C,bC,gD⟩
  have s2:∀ D,(D.heap[L+2]?=some (.cells ((exC x q c++zf (zO x 3))++(zf zB++zf zB)).toArray 157 (0,0))/\∃ C,Bw Y C/\C.grownBy D (some (L+2)))->∀ {K:Wd->Prop},(∀ F,(F.heap[L+2]?=some (.cells ((exC x q c++(zf (zO x 3)++zf (zO x 4)))++(zf zB++[])).toArray 157 (0,0))/\∃ C,Bw Y C/\C.grownBy F (some (L+2)))->K F)->SatR ((storeVar 39 ⟨L+2,0+382,none⟩ (.agg (zf (zO x 4)).toArray)).run PG D) fun _ w'=>K w':=fun D ⟨fD,C,bC,gD⟩ {K} k =>
   zi4 (o:=382) (A:=exC x q c++zf (zO x 3)) (Z:=zf zB) (r:=zO x 4) fD (by rw [lap,zD,zg]) fun F fF gF sF=>k F ⟨by rw [fF];simp only [KL,QF],C,bC,zd gD gF⟩
  have pw:∀ md,zJ (zO x md).to:=fun md=>zc7 (zc7 hv.po fun i hi=>by
   unfold idR;refine zdS (fun i _ h48=>?_) i hi;exact KC Qu (zZ (by omega))) hv.po
  have s3:∀ F,(F.heap[L+2]?=some (.cells ((exC x q c++(zf (zO x 3)++zf (zO x 4)))++(zf zB++[])).toArray 157 (0,0))/\∃ C,Bw Y C/\C.grownBy F (some (L+2)))->∀ {K:Wd->Prop},(∀ G,(ScnV G (L+2) x q c (zO x 3) (zO x 4) (zO x 5)/\G.heap[L+3]?=some (.cells #[At0 (L+2)] 155 (0,0))/\G.heap[L]?=some (.cells #[u8 m] 5 (0,0))/\zY G (L+1) zB/\ExH G b x q c/\L+4<=G.heap.size/\Bw w G)->K G)->SatR ((storeVar 39 ⟨L+2,0+431,none⟩ (.agg (zf (zO x 5)).toArray)).run PG F) fun _ w'=>K w':=fun F ⟨fF,C,bC,gF⟩ {K} k =>
   zi4 (o:=431) (A:=exC x q c++(zf (zO x 3)++zf (zO x 4))) (Z:=[]) (r:=zO x 5) fF (by rw [lap,lap,zD,zg,zg]) fun G fG gG sG=>k G (by
    have gCG:C.grownBy G (some (L+2)):=zd gF gG;have bwC:=zst hbwY bC;have bCG:Below w.heap.size C G:=zk gCG bwC.size (by omega);have bwG:Bw w G:=bwC.trans bCG;have keep:∀ {j:Nat} {o:Obj},j≠L+2->Y.heap[j]?=some o->G.heap[j]?=some o:=fun {j o} hj h=>by
     have h2:=zb bC h;exact (gCG.block j (hlt h2) (by simpa using hj)).trans h2
    refine⟨⟨?_,hv.below bwG,pw 3,pw 4,pw 5⟩,keep (by omega) fP,keep (by omega) fM,keep (by omega) f0,keep (by omega) fY,by have:=bC.size;have:=gCG.size;omega,bwG⟩;rw [fG];simp only [KL,QF])
  refine DrawE.treeR [11,14,17] (.op 0 (.op 3 (.op 5 (.op 7 (.alt (.op 4 (.alt (.op 6 (.alt (.op 8 (.op 9 (.op 10 (.alt (.op 11 (.alt (.op 1 (.op 12 (.op 13 (.alt (.op 14 (.op 2 (.op 15 (.op 16 (.op 17 (.nil)))))) (.op 2 (.op 14 (.op 15 (.op 16 (.op 17 (.nil)))))))))) (.op 2 (.op 1 (.op 12 (.op 13 (.op 14 (.op 15 (.op 16 (.op 17 (.nil))))))))))) (.alt (.op 1 (.alt (.op 11 (.op 12 (.op 13 (.alt (.op 14 (.op 2 (.op 15 (.op 16 (.op 17 (.nil)))))) (.op 2 (.op 14 (.op 15 (.op 16 (.op 17 (.nil)))))))))) (.op 2 (.op 11 (.op 12 (.op 13 (.op 14 (.op 15 (.op 16 (.op 17 (.nil))))))))))) (.op 2 (.alt (.op 11 (.op 1 (.op 12 (.op 13 (.op 14 (.op 15 (.op 16 (.op 17 (.nil))))))))) (.op 1 (.op 11 (.op 12 (.op 13 (.op 14 (.op 15 (.op 16 (.op 17 (.nil)))))))))))))))) (.alt (.op 1 (.alt (.op 8 (.op 9 (.op 10 (.alt (.op 11 (.op 12 (.op 13 (.alt (.op 14 (.op 2 (.op 15 (.op 16 (.op 17 (.nil)))))) (.op 2 (.op 14 (.op 15 (.op 16 (.op 17 (.nil)))))))))) (.op 2 (.op 11 (.op 12 (.op 13 (.op 14 (.op 15 (.op 16 (.op 17 (.nil))))))))))))) (.op 2 (.op 8 (.op 9 (.op 10 (.op 11 (.op 12 (.op 13 (.op 14 (.op 15 (.op 16 (.op 17 (.nil)))))))))))))) (.op 2 (.alt (.op 8 (.op 9 (.op 10 (.alt (.op 11 (.op 1 (.op 12 (.op 13 (.op 14 (.op 15 (.op 16 (.op 17 (.nil))))))))) (.op 1 (.op 11 (.op 12 (.op 13 (.op 14 (.op 15 (.op 16 (.op 17 (.nil))))))))))))) (.op 1 (.op 8 (.op 9 (.op 10 (.op 11 (.op 12 (.op 13 (.op 14 (.op 15 (.op 16 (.op 17 (.nil))))))))))))))))) (.alt (.op 1 (.alt (.op 6 (.alt (.op 8 (.op 9 (.op 10 (.alt (.op 11 (.op 12 (.op 13 (.alt (.op 14 (.op 2 (.op 15 (.op 16 (.op 17 (.nil)))))) (.op 2 (.op 14 (.op 15 (.op 16 (.op 17 (.nil)))))))))) (.op 2 (.op 11 (.op 12 (.op 13 (.op 14 (.op 15 (.op 16 (.op 17 (.nil))))))))))))) (.op 2 (.op 8 (.op 9 (.op 10 (.op 11 (.op 12 (.op 13 (.op 14 (.op 15 (.op 16 (.op 17 (.nil)))))))))))))) (.op 2 (.op 6 (.op 8 (.op 9 (.op 10 (.op 11 (.op 12 (.op 13 (.op 14 (.op 15 (.op 16 (.op 17 (.nil))))))))))))))) (.op 2 (.alt (.op 6 (.alt (.op 8 (.op 9 (.op 10 (.alt (.op 11 (.op 1 (.op 12 (.op 13 (.op 14 (.op 15 (.op 16 (.op 17 (.nil))))))))) (.op 1 (.op 11 (.op 12 (.op 13 (.op 14 (.op 15 (.op 16 (.op 17 (.nil))))))))))))) (.op 1 (.op 8 (.op 9 (.op 10 (.op 11 (.op 12 (.op 13 (.op 14 (.op 15 (.op 16 (.op 17 (.nil)))))))))))))) (.op 1 (.op 6 (.op 8 (.op 9 (.op 10 (.op 11 (.op 12 (.op 13 (.op 14 (.op 15 (.op 16 (.op 17 (.nil)))))))))))))))))) (.alt (.op 1 (.alt (.op 4 (.alt (.op 6 (.alt (.op 8 (.op 9 (.op 10 (.alt (.op 11 (.op 12 (.op 13 (.alt (.op 14 (.op 2 (.op 15 (.op 16 (.op 17 (.nil)))))) (.op 2 (.op 14 (.op 15 (.op 16 (.op 17 (.nil)))))))))) (.op 2 (.op 11 (.op 12 (.op 13 (.op 14 (.op 15 (.op 16 (.op 17 (.nil))))))))))))) (.op 2 (.op 8 (.op 9 (.op 10 (.op 11 (.op 12 (.op 13 (.op 14 (.op 15 (.op 16 (.op 17 (.nil)))))))))))))) (.op 2 (.op 6 (.op 8 (.op 9 (.op 10 (.op 11 (.op 12 (.op 13 (.op 14 (.op 15 (.op 16 (.op 17 (.nil))))))))))))))) (.op 2 (.op 4 (.op 6 (.op 8 (.op 9 (.op 10 (.op 11 (.op 12 (.op 13 (.op 14 (.op 15 (.op 16 (.op 17 (.nil)))))))))))))))) (.op 2 (.alt (.op 4 (.alt (.op 6 (.alt (.op 8 (.op 9 (.op 10 (.alt (.op 11 (.op 1 (.op 12 (.op 13 (.op 14 (.op 15 (.op 16 (.op 17 (.nil))))))))) (.op 1 (.op 11 (.op 12 (.op 13 (.op 14 (.op 15 (.op 16 (.op 17 (.nil))))))))))))) (.op 1 (.op 8 (.op 9 (.op 10 (.op 11 (.op 12 (.op 13 (.op 14 (.op 15 (.op 16 (.op 17 (.nil)))))))))))))) (.op 1 (.op 6 (.op 8 (.op 9 (.op 10 (.op 11 (.op 12 (.op 13 (.op 14 (.op 15 (.op 16 (.op 17 (.nil))))))))))))))) (.op 1 (.op 4 (.op 6 (.op 8 (.op 9 (.op 10 (.op 11 (.op 12 (.op 13 (.op 14 (.op 15 (.op 16 (.op 17 (.nil)))))))))))))))))))))) (by kernel_rfl) ?_;rw [<- hY1];refine⟨At0 (L+2),ld0 bY1,?_⟩;refine Ga ?_ (Ga ?_ ?_)
  ·refine cmo (fen 3 bY1) ?_;rintro e A ⟨rfl,hbA⟩;refine⟨hbA,?_⟩;have bA:=zst bY1 hbA;refine Ga ?_ (Ga ?_ ?_)
   ·refine cmo (fen 4 bA) ?_;rintro e B ⟨rfl,hbB⟩;refine⟨hbB,?_⟩;have bB:=zst bA hbB;refine Ga ?_ (Ga ?_ ?_)
    ·refine cmo (fen 5 bB) ?_;rintro e C ⟨rfl,hbC⟩;refine⟨hbC,?_⟩;have bC:=zst bB hbC;refine Ga ?_ (Ga ?_ ?_)
     ·refine s1 bC fun D hD=>?_;refine Ga ?_ ?_
      ·refine⟨At0 (L+2),ld1 D hD.2,?_⟩;refine Ga ?_ ?_
       ·refine s2 D hD fun F hF=>?_;refine⟨At0 (L+2),ld1 F hF.2,?_⟩;refine s3 F hF fun G hG=>?_;exact⟨(),(cvE rfl rfl),hG⟩
       ·refine⟨At0 (L+2),ld1 D hD.2,?_⟩;refine s2 D hD fun F hF=>?_;refine s3 F hF fun G hG=>?_;exact⟨(),(cvE rfl rfl),hG⟩
      ·refine⟨At0 (L+2),ld1 D hD.2,?_⟩;refine⟨At0 (L+2),ld1 D hD.2,?_⟩;refine s2 D hD fun F hF=>?_;refine s3 F hF fun G hG=>?_;exact⟨(),(cvE rfl rfl),hG⟩
     ·refine⟨At0 (L+2),ld0 bC,?_⟩;refine Ga ?_ ?_
      ·refine s1 bC fun D hD=>?_;refine Ga ?_ ?_
       ·refine s2 D hD fun F hF=>?_;refine⟨At0 (L+2),ld1 F hF.2,?_⟩;refine s3 F hF fun G hG=>?_;exact⟨(),(cvE rfl rfl),hG⟩
       ·refine⟨At0 (L+2),ld1 D hD.2,?_⟩;refine s2 D hD fun F hF=>?_;refine s3 F hF fun G hG=>?_;exact⟨(),(cvE rfl rfl),hG⟩
      ·refine⟨At0 (L+2),ld0 bC,?_⟩;refine s1 bC fun D hD=>?_;refine s2 D hD fun F hF=>?_;refine s3 F hF fun G hG=>?_;exact⟨(),(cvE rfl rfl),hG⟩
     ·refine⟨At0 (L+2),ld0 bC,?_⟩;refine Ga ?_ ?_
      ·refine s1 bC fun D hD=>?_;refine⟨At0 (L+2),ld1 D hD.2,?_⟩;refine s2 D hD fun F hF=>?_;refine s3 F hF fun G hG=>?_;exact⟨(),(cvE rfl rfl),hG⟩
      ·refine⟨At0 (L+2),ld0 bC,?_⟩;refine s1 bC fun D hD=>?_;refine s2 D hD fun F hF=>?_;refine s3 F hF fun G hG=>?_;exact⟨(),(cvE rfl rfl),hG⟩
    ·refine⟨At0 (L+2),ld0 bB,?_⟩;refine Ga ?_ ?_
     ·refine cmo (fen 5 bB) ?_;rintro e C ⟨rfl,hbC⟩;refine⟨hbC,?_⟩;have bC:=zst bB hbC;refine Ga ?_ ?_
      ·refine s1 bC fun D hD=>?_;refine Ga ?_ ?_
       ·refine s2 D hD fun F hF=>?_;refine⟨At0 (L+2),ld1 F hF.2,?_⟩;refine s3 F hF fun G hG=>?_;exact⟨(),(cvE rfl rfl),hG⟩
       ·refine⟨At0 (L+2),ld1 D hD.2,?_⟩;refine s2 D hD fun F hF=>?_;refine s3 F hF fun G hG=>?_;exact⟨(),(cvE rfl rfl),hG⟩
      ·refine⟨At0 (L+2),ld0 bC,?_⟩;refine s1 bC fun D hD=>?_;refine s2 D hD fun F hF=>?_;refine s3 F hF fun G hG=>?_;exact⟨(),(cvE rfl rfl),hG⟩
     ·refine⟨At0 (L+2),ld0 bB,?_⟩;refine cmo (fen 5 bB) ?_;rintro e C ⟨rfl,hbC⟩;refine⟨hbC,?_⟩;have bC:=zst bB hbC;refine s1 bC fun D hD=>?_;refine s2 D hD fun F hF=>?_;refine s3 F hF fun G hG=>?_;exact⟨(),(cvE rfl rfl),hG⟩
    ·refine⟨At0 (L+2),ld0 bB,?_⟩;refine Ga ?_ ?_
     ·refine cmo (fen 5 bB) ?_;rintro e C ⟨rfl,hbC⟩;refine⟨hbC,?_⟩;have bC:=zst bB hbC;refine Ga ?_ ?_
      ·refine s1 bC fun D hD=>?_;refine⟨At0 (L+2),ld1 D hD.2,?_⟩;refine s2 D hD fun F hF=>?_;refine s3 F hF fun G hG=>?_;exact⟨(),(cvE rfl rfl),hG⟩
      ·refine⟨At0 (L+2),ld0 bC,?_⟩;refine s1 bC fun D hD=>?_;refine s2 D hD fun F hF=>?_;refine s3 F hF fun G hG=>?_;exact⟨(),(cvE rfl rfl),hG⟩
     ·refine⟨At0 (L+2),ld0 bB,?_⟩;refine cmo (fen 5 bB) ?_;rintro e C ⟨rfl,hbC⟩;refine⟨hbC,?_⟩;have bC:=zst bB hbC;refine s1 bC fun D hD=>?_;refine s2 D hD fun F hF=>?_;refine s3 F hF fun G hG=>?_;exact⟨(),(cvE rfl rfl),hG⟩
   ·refine⟨At0 (L+2),ld0 bA,?_⟩;refine Ga ?_ ?_
    ·refine cmo (fen 4 bA) ?_;rintro e B ⟨rfl,hbB⟩;refine⟨hbB,?_⟩;have bB:=zst bA hbB;refine Ga ?_ ?_
     ·refine cmo (fen 5 bB) ?_;rintro e C ⟨rfl,hbC⟩;refine⟨hbC,?_⟩;have bC:=zst bB hbC;refine Ga ?_ ?_
      ·refine s1 bC fun D hD=>?_;refine Ga ?_ ?_
       ·refine s2 D hD fun F hF=>?_;refine⟨At0 (L+2),ld1 F hF.2,?_⟩;refine s3 F hF fun G hG=>?_;exact⟨(),(cvE rfl rfl),hG⟩
       ·refine⟨At0 (L+2),ld1 D hD.2,?_⟩;refine s2 D hD fun F hF=>?_;refine s3 F hF fun G hG=>?_;exact⟨(),(cvE rfl rfl),hG⟩
      ·refine⟨At0 (L+2),ld0 bC,?_⟩;refine s1 bC fun D hD=>?_;refine s2 D hD fun F hF=>?_;refine s3 F hF fun G hG=>?_;exact⟨(),(cvE rfl rfl),hG⟩
     ·refine⟨At0 (L+2),ld0 bB,?_⟩;refine cmo (fen 5 bB) ?_;rintro e C ⟨rfl,hbC⟩;refine⟨hbC,?_⟩;have bC:=zst bB hbC;refine s1 bC fun D hD=>?_;refine s2 D hD fun F hF=>?_;refine s3 F hF fun G hG=>?_;exact⟨(),(cvE rfl rfl),hG⟩
    ·refine⟨At0 (L+2),ld0 bA,?_⟩;refine cmo (fen 4 bA) ?_;rintro e B ⟨rfl,hbB⟩;refine⟨hbB,?_⟩;have bB:=zst bA hbB;refine cmo (fen 5 bB) ?_;rintro e C ⟨rfl,hbC⟩;refine⟨hbC,?_⟩;have bC:=zst bB hbC;refine s1 bC fun D hD=>?_;refine s2 D hD fun F hF=>?_;refine s3 F hF fun G hG=>?_;exact⟨(),(cvE rfl rfl),hG⟩
   ·refine⟨At0 (L+2),ld0 bA,?_⟩;refine Ga ?_ ?_
    ·refine cmo (fen 4 bA) ?_;rintro e B ⟨rfl,hbB⟩;refine⟨hbB,?_⟩;have bB:=zst bA hbB;refine Ga ?_ ?_
     ·refine cmo (fen 5 bB) ?_;rintro e C ⟨rfl,hbC⟩;refine⟨hbC,?_⟩;have bC:=zst bB hbC;refine Ga ?_ ?_
      ·refine s1 bC fun D hD=>?_;refine⟨At0 (L+2),ld1 D hD.2,?_⟩;refine s2 D hD fun F hF=>?_;refine s3 F hF fun G hG=>?_;exact⟨(),(cvE rfl rfl),hG⟩
      ·refine⟨At0 (L+2),ld0 bC,?_⟩;refine s1 bC fun D hD=>?_;refine s2 D hD fun F hF=>?_;refine s3 F hF fun G hG=>?_;exact⟨(),(cvE rfl rfl),hG⟩
     ·refine⟨At0 (L+2),ld0 bB,?_⟩;refine cmo (fen 5 bB) ?_;rintro e C ⟨rfl,hbC⟩;refine⟨hbC,?_⟩;have bC:=zst bB hbC;refine s1 bC fun D hD=>?_;refine s2 D hD fun F hF=>?_;refine s3 F hF fun G hG=>?_;exact⟨(),(cvE rfl rfl),hG⟩
    ·refine⟨At0 (L+2),ld0 bA,?_⟩;refine cmo (fen 4 bA) ?_;rintro e B ⟨rfl,hbB⟩;refine⟨hbB,?_⟩;have bB:=zst bA hbB;refine cmo (fen 5 bB) ?_;rintro e C ⟨rfl,hbC⟩;refine⟨hbC,?_⟩;have bC:=zst bB hbC;refine s1 bC fun D hD=>?_;refine s2 D hD fun F hF=>?_;refine s3 F hF fun G hG=>?_;exact⟨(),(cvE rfl rfl),hG⟩
  ·refine⟨At0 (L+2),ld0 bY1,?_⟩;refine Ga ?_ ?_
   ·refine cmo (fen 3 bY1) ?_;rintro e A ⟨rfl,hbA⟩;refine⟨hbA,?_⟩;have bA:=zst bY1 hbA;refine Ga ?_ ?_
    ·refine cmo (fen 4 bA) ?_;rintro e B ⟨rfl,hbB⟩;refine⟨hbB,?_⟩;have bB:=zst bA hbB;refine Ga ?_ ?_
     ·refine cmo (fen 5 bB) ?_;rintro e C ⟨rfl,hbC⟩;refine⟨hbC,?_⟩;have bC:=zst bB hbC;refine Ga ?_ ?_
      ·refine s1 bC fun D hD=>?_;refine Ga ?_ ?_
       ·refine s2 D hD fun F hF=>?_;refine⟨At0 (L+2),ld1 F hF.2,?_⟩;refine s3 F hF fun G hG=>?_;exact⟨(),(cvE rfl rfl),hG⟩
       ·refine⟨At0 (L+2),ld1 D hD.2,?_⟩;refine s2 D hD fun F hF=>?_;refine s3 F hF fun G hG=>?_;exact⟨(),(cvE rfl rfl),hG⟩
      ·refine⟨At0 (L+2),ld0 bC,?_⟩;refine s1 bC fun D hD=>?_;refine s2 D hD fun F hF=>?_;refine s3 F hF fun G hG=>?_;exact⟨(),(cvE rfl rfl),hG⟩
     ·refine⟨At0 (L+2),ld0 bB,?_⟩;refine cmo (fen 5 bB) ?_;rintro e C ⟨rfl,hbC⟩;refine⟨hbC,?_⟩;have bC:=zst bB hbC;refine s1 bC fun D hD=>?_;refine s2 D hD fun F hF=>?_;refine s3 F hF fun G hG=>?_;exact⟨(),(cvE rfl rfl),hG⟩
    ·refine⟨At0 (L+2),ld0 bA,?_⟩;refine cmo (fen 4 bA) ?_;rintro e B ⟨rfl,hbB⟩;refine⟨hbB,?_⟩;have bB:=zst bA hbB;refine cmo (fen 5 bB) ?_;rintro e C ⟨rfl,hbC⟩;refine⟨hbC,?_⟩;have bC:=zst bB hbC;refine s1 bC fun D hD=>?_;refine s2 D hD fun F hF=>?_;refine s3 F hF fun G hG=>?_;exact⟨(),(cvE rfl rfl),hG⟩
   ·refine⟨At0 (L+2),ld0 bY1,?_⟩;refine cmo (fen 3 bY1) ?_;rintro e A ⟨rfl,hbA⟩;refine⟨hbA,?_⟩;have bA:=zst bY1 hbA;refine cmo (fen 4 bA) ?_;rintro e B ⟨rfl,hbB⟩;refine⟨hbB,?_⟩;have bB:=zst bA hbB;refine cmo (fen 5 bB) ?_;rintro e C ⟨rfl,hbC⟩;refine⟨hbC,?_⟩;have bC:=zst bB hbC;refine s1 bC fun D hD=>?_;refine s2 D hD fun F hF=>?_;refine s3 F hF fun G hG=>?_;exact⟨(),(cvE rfl rfl),hG⟩
  ·refine⟨At0 (L+2),ld0 bY1,?_⟩;refine Ga ?_ ?_
   ·refine cmo (fen 3 bY1) ?_;rintro e A ⟨rfl,hbA⟩;refine⟨hbA,?_⟩;have bA:=zst bY1 hbA;refine Ga ?_ ?_
    ·refine cmo (fen 4 bA) ?_;rintro e B ⟨rfl,hbB⟩;refine⟨hbB,?_⟩;have bB:=zst bA hbB;refine Ga ?_ ?_
     ·refine cmo (fen 5 bB) ?_;rintro e C ⟨rfl,hbC⟩;refine⟨hbC,?_⟩;have bC:=zst bB hbC;refine Ga ?_ ?_
      ·refine s1 bC fun D hD=>?_;refine⟨At0 (L+2),ld1 D hD.2,?_⟩;refine s2 D hD fun F hF=>?_;refine s3 F hF fun G hG=>?_;exact⟨(),(cvE rfl rfl),hG⟩
      ·refine⟨At0 (L+2),ld0 bC,?_⟩;refine s1 bC fun D hD=>?_;refine s2 D hD fun F hF=>?_;refine s3 F hF fun G hG=>?_;exact⟨(),(cvE rfl rfl),hG⟩
     ·refine⟨At0 (L+2),ld0 bB,?_⟩;refine cmo (fen 5 bB) ?_;rintro e C ⟨rfl,hbC⟩;refine⟨hbC,?_⟩;have bC:=zst bB hbC;refine s1 bC fun D hD=>?_;refine s2 D hD fun F hF=>?_;refine s3 F hF fun G hG=>?_;exact⟨(),(cvE rfl rfl),hG⟩
    ·refine⟨At0 (L+2),ld0 bA,?_⟩;refine cmo (fen 4 bA) ?_;rintro e B ⟨rfl,hbB⟩;refine⟨hbB,?_⟩;have bB:=zst bA hbB;refine cmo (fen 5 bB) ?_;rintro e C ⟨rfl,hbC⟩;refine⟨hbC,?_⟩;have bC:=zst bB hbC;refine s1 bC fun D hD=>?_;refine s2 D hD fun F hF=>?_;refine s3 F hF fun G hG=>?_;exact⟨(),(cvE rfl rfl),hG⟩
   ·refine⟨At0 (L+2),ld0 bY1,?_⟩;refine cmo (fen 3 bY1) ?_;rintro e A ⟨rfl,hbA⟩;refine⟨hbA,?_⟩;have bA:=zst bY1 hbA;refine cmo (fen 4 bA) ?_;rintro e B ⟨rfl,hbB⟩;refine⟨hbB,?_⟩;have bB:=zst bA hbB;refine cmo (fen 5 bB) ?_;rintro e C ⟨rfl,hbC⟩;refine⟨hbC,?_⟩;have bC:=zst bB hbC;refine s1 bC fun D hD=>?_;refine s2 D hD fun F hF=>?_;refine s3 F hF fun G hG=>?_;exact⟨(),(cvE rfl rfl),hG⟩
 clear fS fP sY hbwY fY fM f0 hwX fX sX hbX hbY;clear X Y;rintro _ Z ⟨hS,fP,fM,f0,fZ,sZ,hbZ⟩;refine⟨Nat,fun R=>⟨[(1,At0 b),(2,At0 L),(4,At0 (L+1)),(5,At0 (L+3)),(6,At0 R)],[]⟩,fun R Y=>Y.heap[R]?=some (.cells zcK.toArray 162 (0,0))/\Bw Z Y,?_,?_⟩
 ·refine cmo zqY ?_;rintro e Y ⟨rfl,hbY⟩;refine zo (X:=Y) (v := .agg zcK.toArray) zub rfl rfl rfl fun V hbV fV sV=>?_;exact⟨Y.heap.size,(cvE rfl rfl),fV,(zst hbY hbV)⟩
 rintro R Y ⟨fR,hbY⟩;have hbwY:=zst hbZ hbY;replace hS:=hS.below hbY;replace fP:=zb hbY fP;replace fM:=zb hbY fM;replace f0:=zb hbY f0;replace fZ:=zb hbY fZ;refine⟨Unit,fun _=>⟨[(4,At0 (L+1))],[]⟩,fun _ V=>zY V (L+1) (jW m.toNat x)/\Bw w V,?_,?_⟩
 ·refine⟨_,zc (za fZ) (i:=0) rfl,?_⟩;refine cmo (zlO (n:=x.ev.length) (caps := #[At0 (L+3),At0 R,At0 L]) (g:=95) (p:=fun a d=>zh x.po a d&&(zaj x a&&(zaj x d&&zcZ m.toNat x (zO x 3) (zO x 4) (zO x 5) a d))) (by omega) (by kernel_rfl) fun a d U ha hd hb=>zrm hk (hS.below hb) (zb hb fP) (zb hb fR) (zb hb fM) ha hd) ?_;rintro e V ⟨rfl,hbV⟩;replace f0:=zb hbV f0;refine zt (v := .agg (zf (jW m.toNat x)).toArray) k39 f0 (zg _) (zg _) (zE _) ?_;exact⟨(),(cvE rfl rfl),zn f0,zl ((zst hbwY hbV)) (by omega) _⟩
 rintro _ V ⟨f0,hbV⟩;exact⟨zf (jW m.toNat x),zg _,za f0,rfl,hbV⟩
end
section
variable {b c:Nat} {x:ExD} {q:OA} {w:Wd}
theorem zm4 {m:UInt8}:Calls PG 24 #[u8 m] w fun e w'=>e = .returned (.bool (zab m.toNat))/\w=w':=by
 refine zF 9 [u8 m] Tryz.func24 ?_;refine biE (fun h=>?_) fun h=>?_
 ·have h:(1:Int)<=(m.toNat:Int):=dT h;refine⟨rb ?_,rfl⟩;unfold zab;rw [Un (by omega:1<=m.toNat),Ut];exact QB.2 (by show (m.toNat:Int)<=6↔_;omega)
 ·have h:¬ (1:Int)<=(m.toNat:Int):=dF h;refine⟨rb ?_,rfl⟩;unfold zab;rw [Uc (by omega:¬ 1<=m.toNat)];rfl
theorem zrF {r:RelD} (hn:r.n=x.ev.length) (h48:x.ev.length<=48):zJ (zbU x r).to:=by
 unfold zbU;exact zeE (by omega)
theorem ziT {X:Wd} {g:Nat} {a b c:RelD} (h:X.heap[g]?=some (.cells (zf a++(zf b++zf c)).toArray 39 (0,0))):SlR zsX X (some ⟨g,0,none⟩) [a,b,c] :=
 SlR.of_cells (hlt h) (by
  have:[a,b,c].flatMap zsX.enc=zf a++(zf b++zf c):=by
   rw [KO,KO,KO,Qm,QF];rfl
  rw [this];exact za h)
theorem zla {m:UInt8} (hk:zab m.toNat=true) (fx:ExH w b x q c) (hv:ExW w x q) (hrf:x.rf.n=x.ev.length) (hT:Tz64M w):CB 26 #[u8 m,At0 b] w (u8 (UInt8.ofNat (j3 m.toNat x))):=by
 refine qk 80 [u8 m,At0 b] (.c .p (.c .p (.c .p (.c .p (.c .p (.c .p (.c .p (.c .p (.c .p (.c .p .p)))))))))) Tryz.func26 ?_;obtain⟨L,hL⟩:=nm (w.heap.size);have hn:=hv.n;obtain⟨fw,frw⟩:=zpS hv hT;have hba:∀ (A:Wd) (o:Obj),Bw A (A.alloc o):=fun A o=>(zba _ _);refine⟨Unit,fun _=>⟨[(0,u8 m),(3,At0 L)],[]⟩,fun _ X=>X.heap[L]?=some (.cells #[At0 b] 81 (0,0))/\Bw w X,⟨(),⟨.cons rfl (.cons (by rw [hL];rfl) .nil),rfl⟩,by rw [hL];exact zy w _,hba w _⟩,?_⟩;rintro _ X ⟨fB,hbX⟩;refine⟨Nat,fun F=>⟨[(0,u8 m),(3,At0 L),(5,At0 F)],[]⟩,fun F Y=>zY Y F (frM x)/\Y.heap[L]?=some (.cells #[At0 b] 81 (0,0))/\Bw w Y,?_,?_⟩
 ·refine⟨_,zc (za fB) (i:=0) rfl,cmo (zuO (zb hbX fx) (hv.below hbX) (hT.below hbX)) ?_⟩;rintro e Y ⟨rfl,hbY⟩;refine zo (X:=Y) (v := .agg (zf (frM x)).toArray) k39 (zg _) (by kernel_rfl) (zE _) fun V hbV fV sV=>?_;have b1:=zst hbY hbV;exact⟨Y.heap.size,(cvE rfl rfl),fV,zb b1 fB,(zst hbX b1)⟩
 clear fB hbX;clear X;rintro F X ⟨fF,fB,hbX⟩;refine⟨Nat,fun G=>⟨[(0,u8 m),(3,At0 L),(5,At0 F),(6,At0 G)],[]⟩,fun G Y=>zY Y G (zaa x)/\zY Y F (frM x)/\Y.heap[L]?=some (.cells #[At0 b] 81 (0,0))/\Bw w Y,?_,?_⟩
 ·refine⟨_,zc (za fB) (i:=0) rfl,?_⟩;have fX:=zb hbX fx;have hvX:=hv.below hbX;refine⟨_,zc (za fX) (i:=0) rfl,cmo (zlO (n:=x.ev.length) (caps := #[At0 L]) (g:=48) (p:=fun a d=>zh x.po a d&&zbu x a d) (by omega) (by kernel_rfl) fun a d Z ha hd hb=>zoz (zb hb fB) (zb hb fX) (hvX.below hb) ha hd) ?_⟩;rintro e Y ⟨rfl,hbY⟩;refine zo (X:=Y) (v := .agg (zf (zaa x)).toArray) k39 (zg _) (by kernel_rfl) (zE _) fun V hbV fV sV=>?_;have b1:=zst hbY hbV;exact⟨Y.heap.size,(cvE rfl rfl),fV,zb b1 fF,zb b1 fB,(zst hbX b1)⟩
 clear fF fB hbX;clear X;rintro G X ⟨fG,fF,fB,hbX⟩;have lw:zJ (zaa x).to:=zeE (by omega);have hbr:j3 m.toNat x=if zaw (z9 (zaa x) [x.rf,x.co,frM x])=true then (if zbT (za5 x.rm (jk (frM x) x.co).1).1=true then (if m.toNat=1 then 0 else if zaw (z9 (jW m.toNat x) [if m.toNat=2 then x.rf else zbU x x.rf,x.co,frM x])=true then 0 else 3) else 2) else 1:=rfl
 refine⟨Unit,fun _=>⟨[(0,u8 m),(3,At0 L),(5,At0 F)],[]⟩,fun _ Y=>zaw (z9 (zaa x) [x.rf,x.co,frM x])=true/\zY Y F (frM x)/\Y.heap[L]?=some (.cells #[At0 b] 81 (0,0))/\Bw w Y,?_,?_⟩
 ·have dX:Bw X X.drew:=(UW _ _).drew;have fX:=hdr (zb hbX fx);refine DrawE.ord [] [0,1,2,3,4,5,6,7,8,9,10,11,12,13] (by kernel_rfl) ⟨zf (zaa x),zg _,za (hdr fG),hlt (hdr fG),_,zc (za (hdr fB)) (i:=0) rfl,zf x.rf,zg _,jD fX (i:=1) (by decide) rfl,hlt fX,_,zc (za (hdr fB)) (i:=0) rfl,zf x.co,zg _,jD fX (i:=2) (by decide) rfl,hlt fX,zf (frM x),zg _,za (hdr fF),hlt (hdr fF),⟨by decide,by decide,rfl⟩,zf x.rf++(zf x.co++zf (frM x)),by kernel_rfl,?_⟩;refine⟨hba _ _,?_⟩;have b1:=dX.alloc (UR _) (.cells (zf x.rf++(zf x.co++zf (frM x))).toArray 39);have hl:=ziT (zy X.drew (.cells (zf x.rf++(zf x.co++zf (frM x))).toArray 39));have hw3:∀ o∈[x.rf,x.co,frM x],zJ o.to:=by
   simp only [Uy,Qs,Gf,forall_eq_or_imp,forall_eq];exact⟨hv.rf,hv.co,frw⟩
  refine cmo (ziO (l:=[x.rf,x.co,frM x]) lw hl hw3 (JR rfl)) ?_;rintro e Y ⟨rfl,hbY⟩;refine⟨hbY,?_⟩;have b2:=zst b1 hbY;refine cmo (zdV (zcH lw hw3) (hT.below ((zst hbX b2)))) ?_;rintro e Z ⟨rfl,hbZ⟩;refine⟨hbZ,?_⟩;have b3:=zst b2 hbZ;have b4:=zst hbX b3;refine biE (fun h=>?_) fun h=>?_
  ·have h:zaw (z9 (zaa x) [x.rf,x.co,frM x])=false:=by
    have h:(!zaw (z9 (zaa x) [x.rf,x.co,frM x]))=true:=h;simpa using h
   rw [h,Gh (by decide)] at hbr;rw [hbr];exact⟨rfl,b4⟩
  ·have h:zaw (z9 (zaa x) [x.rf,x.co,frM x])=true:=by
    have h:(!zaw (z9 (zaa x) [x.rf,x.co,frM x]))=false:=h;simpa using h
   exact⟨(),(cvE rfl rfl),h,zb b3 fF,zb b3 fB,b4⟩
 clear fG fF fB hbX;clear X;rintro _ X ⟨h1,fF,fB,hbX⟩;rw [Gi h1] at hbr;clear h1 lw G;refine⟨Nat,fun G=>⟨[(0,u8 m),(3,At0 L),(5,At0 F),(7,At0 G)],[]⟩,fun G Y=>zY Y G (jk (frM x) x.co).1/\zY Y F (frM x)/\Y.heap[L]?=some (.cells #[At0 b] 81 (0,0))/\Bw w Y,?_,?_⟩
 ·have dX:Bw X X.drew:=(UW _ _).drew;have fX:=hdr (zb hbX fx);have put:∀ (W:Wd) (b3:Nat),Bw X W->zY W b3 zB->X.heap.size<=b3->∀ {K:Wd->Prop},(∀ Y,(zY Y b3 (jk (frM x) x.co).1/\zY Y F (frM x)/\Y.heap[L]?=some (.cells #[At0 b] 81 (0,0))/\Bw w Y)->K Y) ->
    SatR ((storeVar 39 ⟨b3,0,none⟩ (.agg (zf (jk (frM x) x.co).1).toArray)).run PG W) fun _ w'=>K w':=by
   intro W b3 hW f3 g3 K k;refine zt (v := .agg (zf (jk (frM x) x.co).1).toArray) k39 f3 (zg _) (zg _) (zE _) ?_;have hF2:=hlt fF;have hL2:=hlt fB;exact k _ ⟨zn f3,(zq (by omega)).trans (zb hW fF),(zq (by omega)).trans (zb hW fB),zl ((zst hbX hW)) (by have:=hbX.size;omega) _⟩
  refine DrawE.treeQ [10] (.op 0 (.op 1 (.op 2 (.op 3 (.op 4 (.alt (.op 9 (.op 5 (.op 6 (.op 7 (.op 8 (.op 10 (.op 11 .nil))))))) (.op 5 (.op 6 (.op 7 (.op 8 (.op 9 (.op 10 (.op 11 .nil))))))))))))) (by kernel_rfl) ⟨zf (frM x),zg _,za (hdr fF),hlt (hdr fF),_,zc (za (hdr fB)) (i:=0) rfl,zf x.co,zg _,jD fX (i:=2) (by decide) rfl,hlt fX,Ga ?_ ?_⟩
  ·refine⟨hba _ _,?_⟩;have b1:=dX.alloc (UR _) (.cells (zf zB).toArray 39);refine cmo (zci frw hv.co (hT.below ((zst hbX b1)))) ?_;rintro e Y ⟨rfl,hbY⟩;exact⟨hbY,put Y X.heap.size ((zst b1 hbY)) (zb hbY (zy X.drew _)) (UR _) (fun Y hY=>⟨X.heap.size,(cvE rfl rfl),hY⟩)⟩
  ·refine cmo (zci frw hv.co (hT.below ((zst hbX dX)))) ?_;rintro e Y ⟨rfl,hbY⟩;refine⟨hbY,?_⟩;have b1:=zst dX hbY;exact⟨hba _ _,put _ Y.heap.size (b1.alloc b1.size _) (zy Y _) b1.size (fun V hV=>⟨Y.heap.size,(cvE rfl rfl),hV⟩)⟩
 clear fF fB hbX;clear X;rintro G X ⟨fG,fF,fB,hbX⟩;have tw:=zc7 (a:=frM x) (b:=x.co) frw hv.co;refine⟨Nat,fun H=>⟨[(0,u8 m),(3,At0 L),(5,At0 F),(9,At0 H)],[]⟩,fun H Y=>zY Y H (za5 x.rm (jk (frM x) x.co).1).1/\zY Y F (frM x)/\Y.heap[L]?=some (.cells #[At0 b] 81 (0,0))/\Bw w Y,?_,?_⟩
 ·have dX:Bw X X.drew:=(UW _ _).drew;have fX:=hdr (zb hbX fx);obtain⟨tb,htb⟩:=nm ((jk (frM x) x.co).1);rw [<- htb] at fG tw ⊢;have put:∀ (W:Wd) (b3:Nat),Bw X W->zY W b3 zB->X.heap.size<=b3->∀ {K:Wd->Prop},(∀ Y,(zY Y b3 (za5 x.rm tb).1/\zY Y F (frM x)/\Y.heap[L]?=some (.cells #[At0 b] 81 (0,0))/\Bw w Y)->K Y) ->
    SatR ((storeVar 39 ⟨b3,0,none⟩ (.agg (zf (za5 x.rm tb).1).toArray)).run PG W) fun _ w'=>K w':=by
   intro W b3 hW f3 g3 K k;refine zt (v := .agg (zf (za5 x.rm tb).1).toArray) k39 f3 (zg _) (zg _) (zE _) ?_;have hF2:=hlt fF;have hL2:=hlt fB;exact k _ ⟨zn f3,(zq (by omega)).trans (zb hW fF),(zq (by omega)).trans (zb hW fB),zl ((zst hbX hW)) (by have:=hbX.size;omega) _⟩
  refine DrawE.treeQ [10] (.op 0 (.op 1 (.op 2 (.op 3 (.op 4 (.alt (.op 9 (.op 5 (.op 6 (.op 7 (.op 8 (.op 10 (.op 11 .nil))))))) (.op 5 (.op 6 (.op 7 (.op 8 (.op 9 (.op 10 (.op 11 .nil))))))))))))) (by kernel_rfl) ⟨_,zc (za (hdr fB)) (i:=0) rfl,zf x.rm,zg _,jD fX (i:=5) (by decide) rfl,hlt fX,zf tb,zg _,za (hdr fG),hlt (hdr fG),Ga ?_ ?_⟩
  ·refine⟨hba _ _,?_⟩;have b1:=dX.alloc (UR _) (.cells (zf zB).toArray 39);refine cmo (zqM hv.rm tw) ?_;rintro e Y ⟨rfl,hbY⟩;exact⟨hbY,put Y X.heap.size ((zst b1 hbY)) (zb hbY (zy X.drew _)) (UR _) (fun Y hY=>⟨X.heap.size,(cvE rfl rfl),hY⟩)⟩
  ·refine cmo (zqM hv.rm tw) ?_;rintro e Y ⟨rfl,hbY⟩;refine⟨hbY,?_⟩;have b1:=zst dX hbY;exact⟨hba _ _,put _ Y.heap.size (b1.alloc b1.size _) (zy Y _) b1.size (fun V hV=>⟨Y.heap.size,(cvE rfl rfl),hV⟩)⟩
 clear fG fF fB hbX;clear X G;rintro H X ⟨fH,fF,fB,hbX⟩;refine⟨Unit,fun _=>⟨[(0,u8 m),(3,At0 L),(5,At0 F)],[]⟩,fun _ Y=>zbT (za5 x.rm (jk (frM x) x.co).1).1=true/\zY Y F (frM x)/\Y.heap[L]?=some (.cells #[At0 b] 81 (0,0))/\Bw w Y,?_,?_⟩
 ·refine⟨zf (za5 x.rm (jk (frM x) x.co).1).1,zg _,za fH,hlt fH,cmo (zsq (zqp hv.rm)) ?_⟩;rintro e Y ⟨rfl,hbY⟩;have b4:=zst hbX hbY;refine biE (fun h=>?_) fun h=>?_
  ·have h:zbT (za5 x.rm (jk (frM x) x.co).1).1=false:=by
    have h:(!zbT (za5 x.rm (jk (frM x) x.co).1).1)=true:=h;simpa using h
   rw [h,Gh (by decide)] at hbr;rw [hbr];exact⟨rfl,b4⟩
  ·have h:zbT (za5 x.rm (jk (frM x) x.co).1).1=true:=by
    have h:(!zbT (za5 x.rm (jk (frM x) x.co).1).1)=false:=h;simpa using h
   exact⟨(),(cvE rfl rfl),h,zb hbY fF,zb hbY fB,b4⟩
 clear fH fF fB hbX tw;clear X H;rintro _ X ⟨h1,fF,fB,hbX⟩;rw [Gi h1] at hbr;clear h1;refine⟨Unit,fun _=>⟨[(0,u8 m),(3,At0 L),(5,At0 F)],[]⟩,fun _ Y=>m.toNat≠1/\X=Y,?_,?_⟩
 ·refine biE (fun h=>?_) fun h=>?_
  ·have h:(m.toNat:Int)=1:=dT h;rw [Gi (by omega)] at hbr;rw [hbr];exact⟨rfl,hbX⟩
  ·have h:¬ (m.toNat:Int)=1:=dF h;exact⟨(),(cvE rfl rfl),by omega,rfl⟩
 rintro _ _ ⟨h1,rfl⟩;rw [Gh h1] at hbr;clear h1;refine⟨Nat,fun G=>⟨[(0,u8 m),(3,At0 L),(5,At0 F),(11,At0 G)],[]⟩,fun G Y=>G≠F/\G≠L/\w.heap.size<=G/\zY Y G x.rf/\zY Y F (frM x)/\Y.heap[L]?=some (.cells #[At0 b] 81 (0,0))/\Bw w Y,?_,?_⟩
 ·have fX:=zb hbX fx;refine⟨_,zc (za fB) (i:=0) rfl,zf x.rf,zg _,jD fX (i:=1) (by decide) rfl,hlt fX,zo (X:=X) (v := .agg (zf x.rf).toArray) k39 (zg _) (by kernel_rfl) (zE _) fun V hbV fV sV=>?_⟩;have hF2:=hlt fF;have hL2:=hlt fB;exact⟨X.heap.size,(cvE rfl rfl),by omega,by omega,hbX.size,fV,zb hbV fF,zb hbV fB,(zst hbX hbV)⟩
 clear fF fB hbX;clear X;rintro G X ⟨hGF,hGL,hGw,fG,fF,fB,hbX⟩;obtain⟨rfx,hrfx⟩:=nm (if m.toNat=2 then x.rf else zbU x x.rf);have rfw:zJ rfx.to:=by
  rw [hrfx]
  split
  ·exact hv.rf
  ·exact zrF hrf (by omega)
 rw [<- hrfx] at hbr;refine⟨Unit,fun _=>⟨[(0,u8 m),(3,At0 L),(5,At0 F),(11,At0 G)],[]⟩,fun _ Y=>zY Y G rfx/\zY Y F (frM x)/\Y.heap[L]?=some (.cells #[At0 b] 81 (0,0))/\Bw w Y,?_,?_⟩
 ·have fX:=zb hbX fx;have hvX:=hv.below hbX;refine biE (fun h=>?_) fun h=>?_
  ·have h:¬ m.toNat=2:=by
    have h:(!decide ((m.toNat:Int)=2))=true:=h;have h:¬ (m.toNat:Int)=2:=(by simpa using h);omega
   rw [Gh h] at hrfx;refine⟨_,zc (za fB) (i:=0) rfl,zf x.rf,zg _,za fG,hlt fG,cmo (zue fX hvX hv.rf hrf) ?_⟩;rintro e Y ⟨rfl,hbY⟩;rw [<- hrfx];exact zt (v := .agg (zf rfx).toArray) k39 (zb hbY fG) (zg _) (zg _) (zE _) ⟨(),(cvE rfl rfl),zn (zb hbY fG),(zq (by omega)).trans (zb hbY fF),(zq (by omega)).trans (zb hbY fB),zl ((zst hbX hbY)) hGw _⟩
  ·have h:m.toNat=2:=by
    have h:(!decide ((m.toNat:Int)=2))=false:=h;have h:(m.toNat:Int)=2:=(by simpa using h);omega
   rw [Gi h] at hrfx;rw [hrfx];exact⟨(),(cvE rfl rfl),fG,fF,fB,hbX⟩
 clear fG fF fB hbX hrfx;clear X;rintro _ X ⟨fG,fF,fB,hbX⟩;have kw:zJ (jW m.toNat x).to:=zeE (by omega);have dX:Bw X X.drew:=(UW _ _).drew;have hbD:=zst hbX dX;have hw3:∀ o∈[rfx,x.co,frM x],zJ o.to:=by
  simp only [Uy,Qs,Gf,forall_eq_or_imp,forall_eq];exact⟨rfw,hv.co,frw⟩
 have fD:=hdr (zb hbX fx);have hk0:∀ {Y:Wd},Bw X Y->CB 57 #[u8 m,At0 b] Y (.agg (zf (jW m.toNat x)).toArray):=fun {Y} hY =>
  have h2:=zst hbX hY
  ztf hk (zb h2 fx) (hv.below h2) (hT.below h2)
 refine DrawE.treeQ [] (.op 0 (.op 1 (.op 3 (.op 4 (.op 5 (.op 6 (.op 7 (.op 8 (.alt (.op 9 (.op 2 (.op 10 (.op 11 (.op 12 .nil))))) (.op 2 (.op 9 (.op 10 (.op 11 (.op 12 .nil)))))))))))))) (by kernel_rfl) ⟨_,zc (za (hdr fB)) (i:=0) rfl,zf rfx,zg _,za (hdr fG),hlt (hdr fG),_,zc (za (hdr fB)) (i:=0) rfl,zf x.co,zg _,jD fD (i:=2) (by decide) rfl,hlt fD,zf (frM x),zg _,za (hdr fF),hlt (hdr fF),Ga ?_ ?_⟩
 ·refine⟨⟨by decide,by decide,rfl⟩,zf rfx++(zf x.co++zf (frM x)),by kernel_rfl,?_⟩;refine⟨hba _ _,?_⟩;have b1:=dX.alloc (UR _) (.cells (zf rfx++(zf x.co++zf (frM x))).toArray 39);have hl:=ziT (zy X.drew (.cells (zf rfx++(zf x.co++zf (frM x))).toArray 39));refine cmo (hk0 b1) ?_;rintro e Y ⟨rfl,hbY⟩;refine⟨hbY,?_⟩;have b2:=zst b1 hbY;refine cmo (ziO (l:=[rfx,x.co,frM x]) kw (hl.below hbY) hw3 (JR rfl)) ?_;rintro e V ⟨rfl,hbV⟩;refine⟨hbV,?_⟩;have b3:=zst b2 hbV;refine cmo (zdV (zcH kw hw3) (hT.below ((zst hbX b3)))) ?_;rintro e Z ⟨rfl,hbZ⟩;refine⟨hbZ,?_⟩;have b5:=hbX.trans (((zst b3 hbZ)).mono hbX.size);refine biE (fun h=>?_) fun h=>?_
  ·have h:zaw (z9 (jW m.toNat x) [rfx,x.co,frM x])=false:=by
    have h:(!zaw (z9 (jW m.toNat x) [rfx,x.co,frM x]))=true:=h;simpa using h
   rw [h,Gh (by decide)] at hbr;rw [hbr];exact⟨rfl,b5⟩
  ·have h:zaw (z9 (jW m.toNat x) [rfx,x.co,frM x])=true:=by
    have h:(!zaw (z9 (jW m.toNat x) [rfx,x.co,frM x]))=false:=h;simpa using h
   rw [h,Gi rfl] at hbr;rw [hbr];exact⟨rfl,b5⟩
 ·refine cmo (hk0 dX) ?_;rintro e Y ⟨rfl,hbY⟩;refine⟨hbY,?_⟩;have b1:=zst dX hbY;refine⟨⟨by decide,by decide,rfl⟩,zf rfx++(zf x.co++zf (frM x)),by kernel_rfl,?_⟩;refine⟨hba _ _,?_⟩;have b2:=b1.alloc b1.size (.cells (zf rfx++(zf x.co++zf (frM x))).toArray 39);have hl:=ziT (zy Y (.cells (zf rfx++(zf x.co++zf (frM x))).toArray 39));refine cmo (ziO (l:=[rfx,x.co,frM x]) kw hl hw3 (JR rfl)) ?_;rintro e V ⟨rfl,hbV⟩;refine⟨hbV,?_⟩;have b3:=zst b2 hbV;refine cmo (zdV (zcH kw hw3) (hT.below ((zst hbX b3)))) ?_;rintro e Z ⟨rfl,hbZ⟩;refine⟨hbZ,?_⟩;have b5:=hbX.trans (((zst b3 hbZ)).mono hbX.size);refine biE (fun h=>?_) fun h=>?_
  ·have h:zaw (z9 (jW m.toNat x) [rfx,x.co,frM x])=false:=by
    have h:(!zaw (z9 (jW m.toNat x) [rfx,x.co,frM x]))=true:=h;simpa using h
   rw [h,Gh (by decide)] at hbr;rw [hbr];exact⟨rfl,b5⟩
  ·have h:zaw (z9 (jW m.toNat x) [rfx,x.co,frM x])=true:=by
    have h:(!zaw (z9 (jW m.toNat x) [rfx,x.co,frM x]))=false:=h;simpa using h
   rw [h,Gi rfl] at hbr;rw [hbr];exact⟨rfl,b5⟩
theorem zj9 (h:jb x=true):x.rf.n=x.ev.length:=by
 unfold jb zaM at h;simp only [Uv,List.all_nil,Bool.and_true,bAT,dE] at h;obtain⟨_,_,_,_,⟨_,h6,_⟩,_⟩:=h;exact h6.1
theorem zrf {A B C:Bool} {m:Nat}:(if A=true then (if B=true then (if m=1 then 0 else if C=true then 0 else 3) else 2) else 1)<=3:=by
 by_cases h:m=1 <;> cases A <;> cases B <;> cases C <;> simp [h]
theorem zoA {m:Nat} {x:ExD}:decide ((((UInt8.ofNat (j3 m x)).toNat:Nat):Int)=0)=decide (j3 m x=0):=by
 have h:j3 m x<=3:=by
  unfold j3;exact zrf
 refine QB.2 ?_;rw [KF];omega
theorem zjF {m:UInt8} (hv:ExW w x q) (hT:Tz64M w):CB 9 #[u8 m,.agg (exC x q c).toArray] w (.bool (zaY m.toNat x)):=by
 refine qk 16 [u8 m,.agg (exC x q c).toArray] (.c .p .p) Tryz.func9 ?_;obtain⟨L,hL⟩:=nm (w.heap.size);refine⟨Unit,fun _=>⟨[(0,u8 m),(3,At0 L)],[]⟩,fun _ X=>ExH X L x q c/\Bw w X,⟨(),⟨.cons rfl (.cons (by rw [hL];rfl) .nil),rfl⟩,by rw [hL];exact zy w _,(zba w _)⟩,?_⟩;rintro _ X ⟨fX,hbX⟩;refine cmo zm4 ?_;rintro e _ ⟨rfl,rfl⟩;refine biE (fun h1=>?_) fun h1=>?_
 ·have h1:zab m.toNat=true:=h1;refine⟨exC x q c,zD _ _ _,za fX,hlt fX,cmo (zlh (hv.below hbX) (hT.below hbX)) ?_⟩;rintro e Y ⟨rfl,hbY⟩;have bY:=zst hbX hbY;refine biE (fun h2=>?_) fun h2=>?_
  ·have h2:jb x=true:=h2;refine cmo (zla h1 (zb hbY fX) (hv.below bY) (zj9 h2) (hT.below bY)) ?_;rintro e Z ⟨rfl,hbZ⟩;refine⟨rb ?_,(zst bY hbZ)⟩;unfold zaY;rw [h1,h2];exact zoA
  ·have h2:jb x=false:=h2;exact⟨rb (by unfold zaY;rw [h2];cases zab m.toNat <;> rfl),bY⟩
 ·have h1:zab m.toNat=false:=h1;exact brF ⟨rb (by unfold zaY;rw [h1];rfl),hbX⟩
end
section
variable {b c:Nat} {x:ExD} {q:OA} {w:Wd}
theorem zqL {m:UInt8} (hv:ExW w x q) (hT:Tz64M w):CB 19 #[u8 m,.agg (exC x q c).toArray] w (u8 (UInt8.ofNat (zfS m.toNat x))):=by
 refine qk 15 [u8 m,.agg (exC x q c).toArray] (.c .p .p) Tryz.func19 ?_;obtain⟨L,hL⟩:=nm (w.heap.size);refine⟨Unit,fun _=>⟨[(0,u8 m),(3,At0 L)],[]⟩,fun _ X=>ExH X L x q c/\Bw w X,⟨(),⟨.cons rfl (.cons (by rw [hL];rfl) .nil),rfl⟩,by rw [hL];exact zy w _,(zba w _)⟩,?_⟩;rintro _ X ⟨fX,hbX⟩;refine cmo zm4 ?_;rintro e _ ⟨rfl,rfl⟩;refine biE (fun h1=>?_) fun h1=>?_
 ·have h1:zab m.toNat=false:=by
   have h1:(!zab m.toNat)=true:=h1;simpa using h1
  refine brT ?_;have e0:zfS m.toNat x=0:=by unfold zfS;rw [Gh fun h=>by rw [h1] at h;cases h.1]
  rw [e0];exact⟨rfl,hbX⟩
 ·have h1:zab m.toNat=true:=by
   have h1:(!zab m.toNat)=false:=h1;simpa using h1
  refine⟨exC x q c,zD _ _ _,za fX,hlt fX,cmo (zlh (hv.below hbX) (hT.below hbX)) ?_⟩;rintro e Y ⟨rfl,hbY⟩;have bY:=zst hbX hbY;refine biE (fun h2=>?_) fun h2=>?_
  ·have h2:jb x=false:=by
    have h2:(!jb x)=true:=h2;simpa using h2
   have e0:zfS m.toNat x=0:=by unfold zfS;rw [Gh fun h=>by rw [h2] at h;cases h.2]
   rw [e0];exact⟨rfl,bY⟩
  ·have h2:jb x=true:=by
    have h2:(!jb x)=false:=h2;simpa using h2
   have e0:zfS m.toNat x=j3 m.toNat x:=Gi ⟨h1,h2⟩;rw [e0];refine cmo (zla h1 (zb hbY fX) (hv.below bY) (zj9 h2) (hT.below bY)) ?_;rintro e Z ⟨rfl,hbZ⟩;exact⟨rfl,(zst bY hbZ)⟩
end
def zgr (a b:List InsD):Prg:=⟨[116],[[120],[121]],[0,0],[a,b],1,.mk 0 0 0 0 []⟩
def sbP:Prg:=zgr [stI 0 1 0,ldI 0 1 0] [stI 1 1 0,ldI 0 0 0]
def mpP:Prg:=zgr [stI 0 1 0,stI 1 1 0] [ldI 1 1 0,ldI 0 0 0]
def raP:Prg:=zgr [stI 0 1 0,stI 1 1 2] [ldI 1 1 1,ldI 0 0 0]
def coP:Prg:=zgr [stI 0 1 0,ldI 0 0 0] []
theorem zuA:zb7 sbP [0,1] 50=true:=by kernel_rfl
def zbR (l:List ExD) (a b:UInt8):List ExD:=l.filter fun x=>decide (x.regs 0=a)&&decide (x.regs 8=b)
def zjX (x:ExD) (want:List UInt8):Bool:=(List.range want.length).all fun i=>decide (zfS (i+1) x=(want.getD i 0).toNat)&&(zaY (i+1) x == decide (want.getD i 0=0))
abbrev sbF:List ExD:=zbR (jd sbP [0,1]) 0 0
abbrev mpF:List ExD:=zbR (jd mpP [0,1]) 0 0
abbrev raF:List ExD:=zbR (jd raP [0,1]) 0 0
abbrev coF:List ExD:=zbR (jd coP [0,1]) 0 0
def ze8 (l:List ExD) (i n:Nat) (want:List UInt8):Bool:=decide (l.length=n)&&(l.all ztk&&zjX (l.getD i (ex0 0)) want)
theorem zuE:zb7 mpP [0,1] 50=true:=by kernel_rfl
theorem zuB:zb7 raP [0,1] 50=true:=by kernel_rfl
theorem zuP:zb7 coP [0,1] 50=true:=by kernel_rfl
theorem zqV:ze8 sbF 0 1 [0,3,0,0,0,0]=true:=by kernel_rfl
theorem zrh:ze8 mpF 1 2 [0,3,3,0,0,0]=true:=by kernel_rfl
theorem zq7:ze8 raF 1 2 [0,3,3,0,3,0]=true:=by kernel_rfl
theorem zr5:ze8 coF 0 1 [1,1,1,1,1,1]=true:=by kernel_rfl
theorem ztd:(mpF.getD 1 (ex0 0)).regs 9=1:=by kernel_rfl
theorem zs0:(raF.getD 1 (ex0 0)).regs 9=1:=by kernel_rfl
theorem zsQ:(jd sbP [0,1]).length<=30000:=JR (by kernel_rfl)
theorem zte:(jd mpP [0,1]).length<=30000:=JR (by kernel_rfl)
theorem zs1:(jd raP [0,1]).length<=30000:=JR (by kernel_rfl)
theorem ztF:(jd coP [0,1]).length<=30000:=JR (by kernel_rfl)
section
variable {w:Wd}
theorem zlt {l v m:UInt8}:CB 21 #[u8 l,u8 v,u8 m] w (.agg (zA.enc (stI l v m)).toArray):=by
 refine qk 12 [u8 l,u8 v,u8 m] (.c .p .p) Tryz.func21 ?_;obtain⟨L,hL⟩:=nm (w.heap.size);refine⟨Unit,fun _=>⟨[(0,u8 l),(1,u8 v),(2,u8 m),(6,At0 L)],[]⟩,fun _ X=>(∃ cs:Array Value,X.heap[L]?=some (.cells cs 55 (0,0))/\cs.size=10)/\Bw w X,⟨(),⟨.cons rfl (.cons rfl (.cons rfl (.cons (by rw [hL];rfl) .nil))),rfl⟩,⟨_,by rw [hL];exact zy w _,by kernel_rfl⟩,(zba w _)⟩,?_⟩;rintro _ X ⟨⟨cs,f0,hcs⟩,hbX⟩;refine⟨[.bool false,u8 v],by kernel_rfl,?_⟩;refine⟨zA.enc (stI l v m),by kernel_rfl,?_⟩;exact zt (v := .agg (zA.enc (stI l v m)).toArray) k55 f0 rfl hcs rfl ⟨zA.enc (stI l v m),rfl,za (zn f0),rfl,zl hbX (by omega) _⟩
theorem zlV {d l m:UInt8}:CB 22 #[u8 d,u8 l,u8 m] w (.agg (zA.enc (ldI d l m)).toArray):=by
 refine qk 11 [u8 d,u8 l,u8 m] (.c .p .p) Tryz.func22 ?_;obtain⟨L,hL⟩:=nm (w.heap.size);refine⟨Unit,fun _=>⟨[(0,u8 d),(1,u8 l),(2,u8 m),(6,At0 L)],[]⟩,fun _ X=>(∃ cs:Array Value,X.heap[L]?=some (.cells cs 55 (0,0))/\cs.size=10)/\Bw w X,⟨(),⟨.cons rfl (.cons rfl (.cons rfl (.cons (by rw [hL];rfl) .nil))),rfl⟩,⟨_,by rw [hL];exact zy w _,by kernel_rfl⟩,(zba w _)⟩,?_⟩;rintro _ X ⟨⟨cs,f0,hcs⟩,hbX⟩;refine⟨zA.enc (ldI d l m),by kernel_rfl,?_⟩;exact zt (v := .agg (zA.enc (ldI d l m)).toArray) k55 f0 rfl hcs rfl ⟨zA.enc (ldI d l m),rfl,za (zn f0),rfl,zl hbX (by omega) _⟩
theorem zq9 {la lb:List InsD} {pa pb:OA} {ca cb b0 b1 b2:Nat} {i0:UInt8} {Y:Wd} (ha:RowB zA Y.heap.size Y pa la) (hb:RowB zA Y.heap.size Y pb lb) (hla:la.length<=1000) (hlb:lb.length<=1000) (hpa:∀ a,pa=some a->a.block<Y.heap.size) (hpb:∀ a,pb=some a->a.block<Y.heap.size)
  (g1:Y.heap[b0]?=some (.cells #[qB [120],qB [121]] 9 (0,0))) (g2:Y.heap[b1]?=some (.cells #[u8 i0,u8 0] 5 (0,0))) (g3:Y.heap[b2]?=some (.cells #[.slice pa la.length ca,.slice pb lb.length cb] 51 (0,0))) :
  PrgX Y.heap.size Y (jp (zgr la lb) (some ⟨b0,0,none⟩) 2 (some ⟨b1,0,none⟩) 2 (some ⟨b2,0,none⟩) 2 none 0) { zgr la lb with init:=[i0,0] }:=by
 have r3:RowB zhN Y.heap.size Y (some ⟨b2,0,none⟩) [(la,pa,ca),(lb,pb,cb)] := .inr ⟨b2,0,rfl,hlt g3,za g3⟩;have rows:∀ x∈[((la,pa,ca):zen),(lb,pb,cb)],RowB zA Y.heap.size Y x.2.1 x.1/\∀ a,x.2.1=some a->a.block<Y.heap.size:=by
  simp only [Uy,Qs,Gf,forall_eq_or_imp,forall_eq];exact⟨⟨ha,hpa⟩,hb,hpb⟩
 refine⟨⟨⟨by show 1<=_;decide,by show 2<=_;decide,fun s hs=>?_,by show 2<=_;decide,by show 2<=_;decide,fun l hl=>?_⟩,some ⟨b0,0,none⟩,2,some ⟨b1,0,none⟩,2,some ⟨b2,0,none⟩,2,none,0,rfl,?_,?_,?_,?_,?_⟩,?_,?_⟩
 ·have hs:s=[120]\/s=[121]:=by simpa [zgr] using hs
  rcases hs with rfl | rfl <;> decide
 ·have hl:l=la\/l=lb:=by simpa [zgr] using hl
  rcases hl with rfl | rfl <;> omega
 ·exact .inr ⟨b0,0,rfl,hlt g1,za g1⟩
 ·exact .inr ⟨b1,0,rfl,hlt g2,za g2⟩
 ·exact⟨[(la,pa,ca),(lb,pb,cb)],rfl,r3,fun x hx=>(rows x hx).1⟩
 ·exact .mk none [] (by decide) 0 0 (.inl rfl) (fun _=>none) (fun _=>0) (fun i hi=>by simp at hi) (fun i hi=>by simp at hi)
 ·exact UR 2
 ·exact⟨some ⟨b2,0,none⟩,2,rfl,[(la,pa,ca),(lb,pb,cb)],rfl,r3,fun x hx=>⟨(rows x hx).1,fun _=>(rows x hx).2⟩⟩
 ·exact⟨some ⟨b1,0,none⟩,2,rfl,.inr ⟨b1,0,rfl,hlt g2,za g2⟩⟩
theorem zsO {la lb:List InsD} {pa pb:OA} {ca cb:Nat} :
  Calls PG 14 #[.slice pa la.length ca,.slice pb lb.length cb] w fun e w'=>(∃ b0 b1 b2:Nat,e = .returned (.agg (jp (zgr la lb) (some ⟨b0,0,none⟩) 2 (some ⟨b1,0,none⟩) 2 (some ⟨b2,0,none⟩) 2 none 0).toArray) /\
   w.heap.size<=b1/\b0≠b1/\b1≠b2/\w'.heap[b0]?=some (.cells #[qB [120],qB [121]] 9 (0,0))/\w'.heap[b1]?=some (.cells #[u8 0,u8 0] 5 (0,0))/\w'.heap[b2]?=some (.cells #[.slice pa la.length ca,.slice pb lb.length cb] 51 (0,0)))/\Bw w w':=by
 refine qk 11 [.slice pa la.length ca,.slice pb lb.length cb] (.c .p .p) Tryz.func14 ?_;obtain⟨L,hL⟩:=nm (w.heap.size);refine⟨Unit,fun _=>⟨[(0,.slice pa la.length ca),(1,.slice pb lb.length cb),(4,At0 L)],[]⟩,fun _ X=>(∃ cs:Array Value,X.heap[L]?=some (.cells cs 29 (0,0))/\cs.size=10)/\X.heap.size=L+1/\Bw w X,⟨(),⟨.cons rfl (.cons rfl (.cons (by rw [hL];rfl) .nil)),rfl⟩,⟨_,by rw [hL];exact zy w _,by kernel_rfl⟩,by rw [wz,hL],(zba w _)⟩,?_⟩;rintro _ W ⟨⟨cs,fL,hcs⟩,sW,hbW⟩;obtain⟨W1,hW1⟩:=nm (W.alloc (.cells #[qB [120],qB [121]] 9));obtain⟨W2,hW2⟩:=nm (W1.alloc (.cells #[u8 0,u8 0] 5));obtain⟨W3,hW3⟩:=nm (W2.alloc (.cells #[.slice pa la.length ca,.slice pb lb.length cb] 51));have hb1:Bw W W1:=by rw [hW1];exact (zba W _)
 have hb2:Bw W1 W2:=by rw [hW2];exact (zba W1 _)
 have hb3:Bw W2 W3:=by rw [hW3];exact (zba W2 _)
 have f1:W1.heap[W.heap.size]?=some (.cells #[qB [120],qB [121]] 9 (0,0)):=by rw [hW1];exact zy W _
 have f2:W2.heap[W1.heap.size]?=some (.cells #[u8 0,u8 0] 5 (0,0)):=by rw [hW2];exact zy W1 _
 have f3:W3.heap[W2.heap.size]?=some (.cells #[.slice pa la.length ca,.slice pb lb.length cb] 51 (0,0)):=by rw [hW3];exact zy W2 _
 have s1:W1.heap.size=L+2:=by rw [hW1,wz,sW]
 have s2:W2.heap.size=L+3:=by rw [hW2,wz,s1]
 have s3:W3.heap.size=L+4:=by rw [hW3,wz,s2]
 refine⟨⟨by decide,by decide,rfl⟩,[qB [120],qB [121]],rfl,?_⟩;have hW1':W.alloc (.cells [qB [120],qB [121]].toArray 9)=W1:=hW1.symm;rw [hW1'];refine⟨⟨by decide,by decide,rfl⟩,[u8 0,u8 0],rfl,?_⟩;have hW2':W1.alloc (.cells [u8 0,u8 0].toArray 5)=W2:=hW2.symm;rw [hW2'];refine⟨⟨by decide,by decide,rfl⟩,[.slice pa la.length ca,.slice pb lb.length cb],rfl,?_⟩;have hW3':W2.alloc (.cells [.slice pa la.length ca,.slice pb lb.length cb].toArray 51)=W3:=hW3.symm;rw [hW3'];obtain⟨vs,hvs⟩:=nm (jp (zgr la lb) (some ⟨W.heap.size,0,none⟩) 2 (some ⟨W1.heap.size,0,none⟩) 2 (some ⟨W2.heap.size,0,none⟩) 2 none 0);refine⟨vs,by rw [hvs];rfl,?_⟩;have hb12:=zst hb1 hb2;have hbW3:Bw W W3:=hb12.trans (hb3.mono (UI hb1.size hb2.size));have fL3:W3.heap[L]?=some (.cells cs 29 (0,0)):=zb hbW3 fL;have hlen:vs.length=10:=by rw [hvs];rfl
 have hone:vs.all Value.oneCell'=true:=by rw [hvs];rfl
 refine zt (v := .agg vs.toArray) k29 fL3 hlen hcs hone ?_;obtain⟨Y,hY⟩:=nm (W3.setRow L (Value.agg vs.toArray).cells);rw [<- hY];have fY:Y.heap[L]?=some (.cells vs.toArray 29 (0,0)):=by rw [hY];exact zn fL3
 have oY:∀ k,k≠L->Y.heap[k]?=W3.heap[k]?:=fun k hk=>by rw [hY];exact zq hk
 have sY:Y.heap.size=W3.heap.size:=by rw [hY];simp
 have bY:Bw w Y:=by rw [hY];exact zl ((zst hbW hbW3)) (by omega) _
 refine⟨vs,hlen,za fY,⟨W.heap.size,W1.heap.size,W2.heap.size,by rw [hvs];rfl,by omega,by omega,by omega,?_,?_,?_⟩,bY⟩
 ·exact (oY _ (by omega)).trans (zb hb3 (zb hb2 f1))
 ·exact (oY _ (by omega)).trans (zb hb3 f2)
 ·exact (oY _ (by omega)).trans f3
theorem zmv {la lb:List InsD} {pa pb:OA} {ca cb:Nat} (ha:RowB zA w.heap.size w pa la) (hb:RowB zA w.heap.size w pb lb) (hla:la.length<=1000) (hlb:lb.length<=1000) (hpa:∀ a,pa=some a->a.block<w.heap.size) (hpb:∀ a,pb=some a->a.block<w.heap.size) :
  Calls PG 14 #[.slice pa la.length ca,.slice pb lb.length cb] w fun e w'=>(∃ vs:List Value,e = .returned (.agg vs.toArray)/\PrgX w'.heap.size w' vs (zgr la lb))/\Bw w w':=by
 refine cmo zsO ?_;rintro e Y ⟨⟨b0,b1,b2,rfl,_,_,_,g1,g2,g3⟩,bY⟩;have sY:=bY.size;exact⟨⟨_,rfl,zq9 ((ha.below bY).mono sY) ((hb.below bY).mono sY) hla hlb (fun a h=>nL (hpa a h) sY) (fun a h=>nL (hpb a h) sY) g1 g2 g3⟩,bY⟩
end
theorem zgh (x:ExD) (q:OA) (c:Nat) {i:Nat} (hi:i<32):(exC x q c)[295+i]?=some (u8 (x.regs i)):=by
 obtain⟨A,T,hA,hE⟩:=zna x q c [];have:=hE x.regs;rw [QF] at this;show (exC { x with regs:=x.regs } q c)[295+i]?=_;rw [this,qW hA,Jq (by rw [zG];exact hi),zcI (n:=32) (fun i=>u8 (x.regs i)) hi]
section
variable {w:Wd} {B:Nat} {pc:List Value} {p:Prg} {V:List UInt8} {a b:UInt8}
theorem zfN (l:List ExD) (x:ExD):zbR (l++[x]) a b=zbR l a b++if (decide (x.regs 0=a)&&decide (x.regs 8=b))=true then [x] else []:=by
 unfold zbR;rw [Kt,Qk,List.filter_nil]
theorem zgg (hB:B<=w.heap.size) (hP:PrgX B w pc p) (hG:GlobE w) (hQ:zb7 p V 50=true) (hlen:(jd p V).length<=30000) :
  Calls PG 20 #[.agg pc.toArray,u8 a,u8 b] w fun e w'=>(∃ (xs:List zbV) (q:OA) (c:Nat),e = .returned (.slice q xs.length c)/\xs.map (·.1)=zbR (jd p V) a b/\SlR exE w' q xs/\∀ x∈xs,SlR evE w' x.2.1 x.1.ev)/\Bw w w':=by
 refine qk 45 [.agg pc.toArray,u8 a,u8 b] (.c .p (.c .p (.c .p (.c .p .p)))) Tryz.func20 ?_;obtain⟨L,hL⟩:=nm (w.heap.size);have hpc:=hP.v.size;refine⟨Unit,fun _=>⟨[(1,u8 a),(2,u8 b),(3,At0 L)],[]⟩,fun _ X=>X.heap[L]?=some (.cells pc.toArray 29 (0,0))/\Bw w X,⟨(),⟨.cons rfl (.cons rfl (.cons (by rw [hL];rfl) .nil)),rfl⟩,by rw [hL];exact zy w _,(zba w _)⟩,?_⟩;rintro _ X ⟨f0,hbX⟩;refine⟨Unit,fun _=>⟨[(1,u8 a),(2,u8 b),(3,At0 L),(7,.slice none 0 0)],[]⟩,fun _ Y=>X=Y,⟨(),(cvE rfl rfl),rfl⟩,?_⟩;rintro _ _ rfl;have hXs:=hbX.size;refine⟨List zbV×OA×Nat,fun s=>⟨[(1,u8 a),(2,u8 b),(7,.slice none 0 0),(8,.slice s.2.1 s.1.length s.2.2)],[]⟩,fun s Y=>s.1.map (·.1)=jd p V/\OwnS exE 46 X.heap.size Y s.2.1 s.2.2 s.1/\(∀ x∈s.1,OwnS evE 49 X.heap.size Y x.2.1 x.2.2 x.1.ev)/\Bw w Y,?_,?_⟩
 ·refine⟨pc,hpc,za f0,hlt f0,cmo (zqK (most:=50) (UI hB hXs) (hP.below (hbX.mono hB)) (hG.below hbX) (by decide) hQ) ?_⟩;rintro e Y ⟨⟨xs,q,c,rfl,h1,h2,h3⟩,hbY⟩;exact⟨(xs,q,c),(cvE rfl rfl),h1,h2,h3,hbX.trans (hbY.mono hXs)⟩
 rintro⟨xs,q,c⟩ Y ⟨hxs,oX,hev,hbY⟩;dsimp only at hxs oX hev ⊢;obtain⟨D,hD⟩:=nm (Y.heap.size);have hxl:xs.length<=30000:=by
  have:=Gd List.length hxs;rw [QI] at this;omega
 refine⟨List zbV×OA×Nat,fun s=>⟨[(7,.slice s.2.1 s.1.length s.2.2)],[]⟩,fun s Z=>s.1.map (·.1)=zbR (jd p V) a b/\(∀ x∈s.1,x∈xs)/\OwnS exE 46 D Z s.2.1 s.2.2 s.1/\Below D Y Z,?_,?_⟩
 ·refine⟨Nat×List zbV×OA×Nat,fun s=>⟨[(1,u8 a),(2,u8 b),(7,.slice s.2.2.1 s.2.1.length s.2.2.2),(17,.slice q xs.length c),(18,i64 xs.length),(19,i64 (s.1:Nat))],[]⟩,
   fun s Z=>s.1<=xs.length/\s.2.1.map (·.1)=zbR ((xs.take s.1).map (·.1)) a b/\(∀ x∈s.2.1,x∈xs)/\s.2.1.length<=s.1/\OwnS exE 46 D Z s.2.2.1 s.2.2.2 s.2.1/\Below D Y Z,fun s=>xs.length-s.1,(0,[],none,0),
   (cvE rfl rfl),⟨UU _,rfl,fun x hx=>(by cases hx),UR _,OwnS.nil,by rw [hD];exact UW _ _⟩,?_⟩
  rintro⟨k,out,po,co⟩ Z ⟨hk,hout,hmem,hlo,oZ,hbZ⟩;dsimp only at hk hout hmem hlo oZ ⊢;have hZs:D<=Z.heap.size:=by have:=hbZ.size;omega
  refine biE (fun hc=>?_) fun hc=>?_
  ·have hc:(k:Int)<(xs.length:Int):=dT hc;have hkl:k<xs.length:=by omega
   obtain⟨bx,ox,hq,hbx,hat⟩:=oX.row.at hkl;obtain⟨y,hy⟩:∃ y,xs[k]=y:=⟨_,rfl⟩;have hym:y∈xs:=by rw [<- hy];exact gM hkl
   have htk:(xs.take (k+1)).map (·.1)=(xs.take k).map (·.1)++[y.1]:=by rw [tsg hkl,hy,QL];rfl
   have hatk:=hat k hkl;rw [hy] at hatk;have hatk:zI Y ⟨bx,ox+k*333,none⟩ (exC y.1 y.2.1 y.2.2):=hatk;subst hq;refine⟨k,rfl,hkl,exC y.1 y.2.1 y.2.2,zD _ _ _,zS hbZ (by show bx<D;omega) hatk,by show bx<_;omega,?_⟩;refine zo (X:=Z) (v := .agg (exC y.1 y.2.1 y.2.2).toArray) k46 (zD _ _ _) jx (za0 _ _ _) fun U hbU fU sU=>?_;have fU:ExH U Z.heap.size y.1 y.2.1 y.2.2:=fU;have oU:=oZ.below hbU;have hbU2:=hbZ.trans (hbU.mono hZs);have hUs:D<=U.heap.size:=by omega
   have e0:(exC y.1 y.2.1 y.2.2)[295]?=some (u8 (y.1.regs 0)):=zgh y.1 y.2.1 y.2.2 (i:=0) (by decide);have e8:(exC y.1 y.2.1 y.2.2)[303]?=some (u8 (y.1.regs 8)):=zgh y.1 y.2.1 y.2.2 (i:=8) (by decide);have skip:(decide (y.1.regs 0=a)&&decide (y.1.regs 8=b))=false->(k+1<=xs.length/\out.map (·.1)=zbR ((xs.take (k+1)).map (·.1)) a b/\(∀ x∈out,x∈xs)/\out.length<=k+1/\OwnS exE 46 D U po co out/\Below D Y U):=fun h =>
    ⟨hkl,by rw [htk,zfN,h,hout];simp,hmem,by omega,oU,hbU2⟩
   refine⟨0,rfl,by decide,?_⟩;refine⟨0,rfl,by decide,?_⟩;refine⟨u8 (y.1.regs 0),zc (za fU) e0,biE (fun h1=>?_) fun h1=>?_⟩
   ·have h1:y.1.regs 0=a:=qq.1 (dT h1);refine⟨1,rfl,by decide,?_⟩;refine⟨0,rfl,by decide,?_⟩;refine⟨u8 (y.1.regs 8),zc (za fU) e8,biE (fun h2=>?_) fun h2=>?_⟩
    ·have h2:y.1.regs 8=b:=qq.1 (dT h2);have hp:(decide (y.1.regs 0=a)&&decide (y.1.regs 8=b))=true:=(by rw [Un h1,Un h2];rfl);refine⟨exC y.1 y.2.1 y.2.2,zD _ _ _,za fU,hlt fU,⟨by decide,by decide,jx⟩,exE.enc y,zaZ (zD _ _ _) jx,?_⟩;have hb2:Bw U (U.alloc (.cells (exE.enc y).toArray 46)):=zba _ _;have sb2:=hb2.size;unfold zdX zax;show SatR _ _;refine jj Tryz.underlying30 k46 rfl rfl jx (oU.below hb2) (news:=[y]) rfl (qK exE y) (by omega) (by show out.length+1<=_;omega) (by show (out.length+1)*2416<=_;omega) fun p' c' S oS gS hbS hat2=>nxI (by omega) ?_;exact⟨(k+1,out++[y],p',c'),(cvE rfl rfl),⟨hkl,by rw [htk,zfN,Gi hp,QL,hout];rfl,fun x hx=>(by
      rcases QM.1 hx with h | h
      ·exact hmem x h
      ·rw [Ky.1 h];exact hym),by rw [lap];show _+1<=_;omega,oS,(hbU2.trans (hb2.mono hUs)).trans hbS⟩,zdc (by omega)⟩
    ·have h2:¬ y.1.regs 8=b:=fun e2=>(dF h2) (by rw [e2]);exact nxI (by omega) ⟨(k+1,out,po,co),(cvE rfl rfl),skip (by rw [Uc h2,Ud]),zdc (by omega)⟩
   ·have h1:¬ y.1.regs 0=a:=fun e2=>(dF h1) (by rw [e2]);exact brF (nxI (by omega) ⟨(k+1,out,po,co),(cvE rfl rfl),skip (by rw [Uc h1];rfl),zdc (by omega)⟩)
  ·have hc:¬ (k:Int)<(xs.length:Int):=dF hc;obtain rfl:k=xs.length:=by omega
   rw [Qt,hxs] at hout;exact⟨(out,po,co),(cvE rfl rfl),hout,hmem,oZ,hbZ⟩
 rintro⟨out,po,co⟩ Z ⟨hout,hmem,oZ,hbZ⟩;dsimp only at hout hmem oZ ⊢;have hwY:=hbY.size;exact⟨⟨out,po,co,rfl,hout,oZ.row,fun x hx=>((hev x (hmem x hx)).below (hbZ.mono (by omega))).row⟩,hbY.trans (hbZ.mono (by omega))⟩
end
theorem zoJ (u:Nat):IntKind.u8.wrap (u:Int)=((UInt8.ofNat u).toNat:Int):=by
 have:=KF (n:=u);simp [IntKind.wrap,IntKind.bits,IntKind.signed] at this ⊢
 try omega
theorem zp2 (d:Nat) (a b:Bool) (w:Wd):(Op.equalIn (d+1) 4 (.bool a) (.bool b)).run PG w = .ok (decide (a=b)) w:=by
 simp only [Op.equalIn,UO,Uo Tryz.underlying4,KX,UP]
 cases a <;> cases b <;> rfl
theorem zin (x y:Operand) (a b:Bool) (w:Wd):(do eqGuard .neq 4 x y (.bool a) (.bool b);binOp .neq 4 (.bool a) (.bool b)).run PG w = .ok (.bool (!decide (a=b))) w:=by
 have h:(Op.equal 4 (.bool a) (.bool b)).run PG w = .ok (decide (a=b)) w:=zp2 9999 a b w;have h1:(eqGuard .neq 4 x y (.bool a) (.bool b)).run PG w = .ok () w:=rfl;rw [UO,h1];simp only [KX,binOp,UO,h,UP]
section
variable {w:Wd} {c cw:Nat} {x:ExD} {q pw:OA} {ws:List UInt8}
theorem zo8 (h:zjX x ws=true) {i:Nat} (hi:i<ws.length):zfS (i+1) x=ws[i].toNat/\zaY (i+1) x=decide (ws[i]=0):=by
 unfold zjX at h;rw [Qg] at h;have:=h i (Uj.2 hi);rw [bAT,dE,beq_iff_eq,gDe,gE hi] at this;exact this
theorem ziX (hv:ExV w x q) (hT:Tz64M w) (hw:SlR zR w pw ws) (hs:zjX x ws=true) (h6:ws.length<=6):CB 23 #[.agg (exC x q c).toArray,.slice pw ws.length cw] w (.bool true):=by
 refine qk 32 [.agg (exC x q c).toArray,.slice pw ws.length cw] (.c .p (.c .p .p)) Tryz.func23 ?_;obtain⟨L,hL⟩:=nm (w.heap.size);refine⟨Unit,fun _=>⟨[(1,.slice pw ws.length cw),(2,At0 L)],[]⟩,fun _ X=>ExH X L x q c/\Bw w X,⟨(),⟨.cons rfl (.cons (by rw [hL];rfl) .nil),rfl⟩,by rw [hL];exact zy w _,(zba w _)⟩,?_⟩;rintro _ X ⟨fX,hbX⟩;refine⟨Unit,fun _=>⟨[],[]⟩,fun _ Y=>Bw w Y,?_,?_⟩
 ·refine⟨Nat,fun k=>⟨[(2,At0 L),(7,.slice pw ws.length cw),(8,i64 ws.length),(9,i64 (k:Nat))],[]⟩,fun k Y=>k<=ws.length/\ExH Y L x q c/\Bw w Y,fun k=>ws.length-k,0,
   (cvE rfl rfl),⟨UU _,fX,hbX⟩,?_⟩
  clear fX hbX;rintro k Y ⟨hk,fY,hbY⟩;dsimp only;refine biE (fun hc=>?_) fun hc=>?_
  ·have hc:(k:Int)<(ws.length:Int):=dT hc;have hkl:k<ws.length:=by omega
   obtain⟨h1,h2⟩:=zo8 hs hkl;obtain⟨bw,ow,hq,hbw,hat⟩:=(hw.below hbY).at hkl;obtain⟨v,hv2⟩:∃ v,ws[k]=v:=⟨_,rfl⟩;have hatk:=hat k hkl;rw [hv2] at hatk h1 h2;have hm:(UInt8.ofNat (k+1)).toNat=k+1:=by
    rw [KF];exact Qz (by omega)
   subst hq;refine⟨k,rfl,hkl,u8 v,by have:=zc hatk (i:=0) (v:=u8 v) rfl;exact this,nxI (by omega) ⟨((UInt8.ofNat (k+1)).toNat:Int),zoJ _,exC x q c,zD _ _ _,za fY,hlt fY,cmo (zqL (m:=UInt8.ofNat (k+1)) (hv.w.below hbY) (hT.below hbY)) ?_⟩⟩;rintro e Z ⟨rfl,hbZ⟩;rw [hm,h1];have bZ:=zst hbY hbZ;have fZ:=zb hbZ fY;have hvv:UInt8.ofNat v.toNat=v:=UInt8.ofNat_toNat;rw [hvv];refine biE (fun h=>?_) fun _=>?_
   ·have h:(!decide ((v.toNat:Int)=(v.toNat:Int)))=true:=h;rw [Un rfl] at h
    cases h
   refine nxI (by omega) ⟨((UInt8.ofNat (k+1)).toNat:Int),zoJ _,exC x q c,zD _ _ _,za fZ,hlt fZ,cmo (zjF (m:=UInt8.ofNat (k+1)) (hv.w.below bZ) (hT.below bZ)) ?_⟩;rintro e V ⟨rfl,hbV⟩;rw [hm,h2];have e0:decide (v=0)=decide ((v.toNat:Int)=0):=QB.2 (qq (x:=v) (y:=0)).symm;rw [e0];refine⟨_,fun w=>zin _ _ _ _ w,biE (fun h=>?_) fun _=>?_⟩
   ·have h:(!decide (decide ((v.toNat:Int)=0)=decide ((v.toNat:Int)=0)))=true:=h;rw [Un rfl] at h
    cases h
   exact nxI (by omega) ⟨k+1,(cvE rfl rfl),⟨hkl,zb hbV fZ,(zst bZ hbV)⟩,zdc (by omega)⟩
  ·exact⟨(),⟨.nil,rfl⟩,hbY⟩
 rintro _ Y hbY;exact⟨rfl,hbY⟩
end
structure FndV (X:Wd) (F:List ExD) (xs:List zbV) (q:OA):Prop where
 e:xs.map (·.1)=F
 row:SlR exE X q xs
 ev:∀ x∈xs,SlR evE X x.2.1 x.1.ev
theorem FndV.below {X Y:Wd} {F:List ExD} {xs:List zbV} {q:OA} (h:FndV X F xs q) (hb:Bw X Y):FndV Y F xs q:=⟨h.e,h.row.below hb,fun x hx=>(h.ev x hx).below hb⟩
theorem FndV.at {X:Wd} {F:List ExD} {xs:List zbV} {q:OA} {i n:Nat} {want:List UInt8} (h:FndV X F xs q) (hs:ze8 F i n want=true) (hi:i<n):xs.length=n/\∃ (b o:Nat) (y:zbV),q=some ⟨b,o,none⟩/\b<X.heap.size/\zI X ⟨b,o+i*333,none⟩ (exC y.1 y.2.1 y.2.2)/\ExV X y.1 y.2.1/\zjX y.1 want=true/\y.1=F.getD i (ex0 0):=by
 unfold ze8 at hs;rw [bAT,bAT,dE] at hs;have hl:xs.length=n:=by
  have:=Gd List.length h.e;rw [QI] at this;omega
 have hix:i<xs.length:=by omega
 obtain⟨b,o,hq,hb,hat⟩:=h.row.at hix;obtain⟨y,hy⟩:∃ y,xs[i]=y:=⟨_,rfl⟩;have hym:y∈xs:=by rw [<- hy];exact gM hix
 have hF:y.1=F.getD i (ex0 0):=by
  rw [<- h.e,gDe,KR,gE hix,hy];rfl
 have hF2:y.1∈F:=by
  rw [<- h.e];exact Kj hym
 have hatk:=hat i hix;rw [hy] at hatk;exact⟨hl,b,o,y,hq,hb,hatk,zrE (Qg.1 hs.2.1 _ hF2) (h.ev y hym),by rw [hF];exact hs.2.2,hF⟩
theorem zcM {W:Wd} {g:Nat} {cs:List Value} {l:List InsD} (h:W.heap[g]?=some (.cells cs.toArray 55 (0,0))) (hc:cs=l.flatMap zA.enc):RowB zA W.heap.size W (some ⟨g,0,none⟩) l :=
 .inr ⟨g,0,rfl,hlt h,by rw [<- hc];exact za h⟩
theorem ztL {w:Wd} (hG:GlobE w):CB 8 #[] w (.bool true):=by
 refine qk 98 [] (.s .p (.c .p (.c .p (.c .p (.c .p (.c .p (.c .p .p))))))) Tryz.func8 ?_;refine⟨List zbV×OA×Nat,fun s=>⟨[(1,.slice s.2.1 s.1.length s.2.2)],[]⟩,fun s X=>FndV X sbF s.1 s.2.1/\Bw w X,?_,?_⟩
 ·have b0:=(UW w.heap.size w);refine cmo (zlt (l:=0) (v:=1) (m:=0)) ?_;rintro e V1 ⟨rfl,hv1⟩;have b1:=zst b0 hv1;refine cmo (zlV (d:=0) (l:=1) (m:=0)) ?_;rintro e V2 ⟨rfl,hv2⟩;have b2:=zst b1 hv2;refine⟨⟨by decide,by decide,rfl⟩,zA.enc (stI 0 1 0)++zA.enc (ldI 0 1 0),by kernel_rfl,?_⟩;obtain⟨V3,e3⟩:=nm (V2.alloc (.cells (zA.enc (stI 0 1 0)++zA.enc (ldI 0 1 0)).toArray 55));have hv3:Bw V2 V3:=by rw [e3];exact (zba _ _)
  have f3:V3.heap[V2.heap.size]?=some (.cells (zA.enc (stI 0 1 0)++zA.enc (ldI 0 1 0)).toArray 55 (0,0)):=by rw [e3];exact zy _ _
  rw [<- e3];have b3:=zst b2 hv3;refine cmo (zlt (l:=1) (v:=1) (m:=0)) ?_;rintro e V4 ⟨rfl,hv4⟩;have b4:=zst b3 hv4;refine cmo (zlV (d:=0) (l:=0) (m:=0)) ?_;rintro e V5 ⟨rfl,hv5⟩;have b5:=zst b4 hv5;refine⟨⟨by decide,by decide,rfl⟩,zA.enc (stI 1 1 0)++zA.enc (ldI 0 0 0),by kernel_rfl,?_⟩;obtain⟨V6,e6⟩:=nm (V5.alloc (.cells (zA.enc (stI 1 1 0)++zA.enc (ldI 0 0 0)).toArray 55));have hv6:Bw V5 V6:=by rw [e6];exact (zba _ _)
  have f6:V6.heap[V5.heap.size]?=some (.cells (zA.enc (stI 1 1 0)++zA.enc (ldI 0 0 0)).toArray 55 (0,0)):=by rw [e6];exact zy _ _
  rw [<- e6];have b6:=zst b5 hv6;refine cmo (zmv (la:=[stI 0 1 0,ldI 0 1 0]) (lb:=[stI 1 1 0,ldI 0 0 0]) (zcM (zb hv6 (zb hv5 (zb hv4 (f3)))) (l:=[stI 0 1 0,ldI 0 1 0]) rfl) (zcM (f6) (l:=[stI 1 1 0,ldI 0 0 0]) rfl) (JR rfl) (JR rfl) (fun a h=>by cases h;exact hlt (zb hv6 (zb hv5 (zb hv4 (f3))))) (fun a h=>by cases h;exact hlt (f6))) ?_;rintro e V7 ⟨⟨vs,rfl,hP⟩,hv7⟩;have b7:=zst b6 hv7;refine cmo (zgg (p:=sbP) (V:=[0,1]) (a:=0) (b:=0) (UR _) hP (hG.below b7) zuA zsQ) ?_;rintro e V8 ⟨⟨xs,q,c,rfl,h1,h2,h3⟩,hv8⟩;have b8:=zst b7 hv8;exact⟨(xs,q,c),(cvE rfl rfl),⟨h1,h2,h3⟩,b8⟩
 rintro s1 W1 ⟨g1,hb1⟩;refine⟨List zbV×OA×Nat,fun s=>⟨[(1,.slice s1.2.1 s1.1.length s1.2.2),(2,.slice s.2.1 s.1.length s.2.2)],[]⟩,fun s X=>FndV X mpF s.1 s.2.1/\FndV X sbF s1.1 s1.2.1/\Bw w X,?_,?_⟩
 ·have b0:=hb1;refine cmo (zlt (l:=0) (v:=1) (m:=0)) ?_;rintro e V1 ⟨rfl,hv1⟩;have b1:=zst b0 hv1;refine cmo (zlt (l:=1) (v:=1) (m:=0)) ?_;rintro e V2 ⟨rfl,hv2⟩;have b2:=zst b1 hv2;refine⟨⟨by decide,by decide,rfl⟩,zA.enc (stI 0 1 0)++zA.enc (stI 1 1 0),by kernel_rfl,?_⟩;obtain⟨V3,e3⟩:=nm (V2.alloc (.cells (zA.enc (stI 0 1 0)++zA.enc (stI 1 1 0)).toArray 55));have hv3:Bw V2 V3:=by rw [e3];exact (zba _ _)
  have f3:V3.heap[V2.heap.size]?=some (.cells (zA.enc (stI 0 1 0)++zA.enc (stI 1 1 0)).toArray 55 (0,0)):=by rw [e3];exact zy _ _
  rw [<- e3];have b3:=zst b2 hv3;refine cmo (zlV (d:=1) (l:=1) (m:=0)) ?_;rintro e V4 ⟨rfl,hv4⟩;have b4:=zst b3 hv4;refine cmo (zlV (d:=0) (l:=0) (m:=0)) ?_;rintro e V5 ⟨rfl,hv5⟩;have b5:=zst b4 hv5;refine⟨⟨by decide,by decide,rfl⟩,zA.enc (ldI 1 1 0)++zA.enc (ldI 0 0 0),by kernel_rfl,?_⟩;obtain⟨V6,e6⟩:=nm (V5.alloc (.cells (zA.enc (ldI 1 1 0)++zA.enc (ldI 0 0 0)).toArray 55));have hv6:Bw V5 V6:=by rw [e6];exact (zba _ _)
  have f6:V6.heap[V5.heap.size]?=some (.cells (zA.enc (ldI 1 1 0)++zA.enc (ldI 0 0 0)).toArray 55 (0,0)):=by rw [e6];exact zy _ _
  rw [<- e6];have b6:=zst b5 hv6;refine cmo (zmv (la:=[stI 0 1 0,stI 1 1 0]) (lb:=[ldI 1 1 0,ldI 0 0 0]) (zcM (zb hv6 (zb hv5 (zb hv4 (f3)))) (l:=[stI 0 1 0,stI 1 1 0]) rfl) (zcM (f6) (l:=[ldI 1 1 0,ldI 0 0 0]) rfl) (JR rfl) (JR rfl) (fun a h=>by cases h;exact hlt (zb hv6 (zb hv5 (zb hv4 (f3))))) (fun a h=>by cases h;exact hlt (f6))) ?_;rintro e V7 ⟨⟨vs,rfl,hP⟩,hv7⟩;have b7:=zst b6 hv7;refine cmo (zgg (p:=mpP) (V:=[0,1]) (a:=0) (b:=0) (UR _) hP (hG.below b7) zuE zte) ?_;rintro e V8 ⟨⟨xs,q,c,rfl,h1,h2,h3⟩,hv8⟩;have b8:=zst b7 hv8;have bt:Bw W1 V8:=by
   have c1:=hv1;have c2:=zst c1 hv2;have c3:=zst c2 hv3;have c4:=zst c3 hv4;have c5:=zst c4 hv5;have c6:=zst c5 hv6;have c7:=zst c6 hv7;have c8:=zst c7 hv8;exact c8
  exact⟨(xs,q,c),(cvE rfl rfl),⟨h1,h2,h3⟩,g1.below bt,b8⟩
 rintro s2 W2 ⟨g2,g1,hb2⟩;refine⟨List zbV×OA×Nat,fun s=>⟨[(1,.slice s1.2.1 s1.1.length s1.2.2),(2,.slice s2.2.1 s2.1.length s2.2.2),(3,.slice s.2.1 s.1.length s.2.2)],[]⟩,fun s X=>FndV X raF s.1 s.2.1/\FndV X sbF s1.1 s1.2.1/\FndV X mpF s2.1 s2.2.1/\Bw w X,?_,?_⟩
 ·have b0:=hb2;refine cmo (zlt (l:=0) (v:=1) (m:=0)) ?_;rintro e V1 ⟨rfl,hv1⟩;have b1:=zst b0 hv1;refine cmo (zlt (l:=1) (v:=1) (m:=2)) ?_;rintro e V2 ⟨rfl,hv2⟩;have b2:=zst b1 hv2;refine⟨⟨by decide,by decide,rfl⟩,zA.enc (stI 0 1 0)++zA.enc (stI 1 1 2),by kernel_rfl,?_⟩;obtain⟨V3,e3⟩:=nm (V2.alloc (.cells (zA.enc (stI 0 1 0)++zA.enc (stI 1 1 2)).toArray 55));have hv3:Bw V2 V3:=by rw [e3];exact (zba _ _)
  have f3:V3.heap[V2.heap.size]?=some (.cells (zA.enc (stI 0 1 0)++zA.enc (stI 1 1 2)).toArray 55 (0,0)):=by rw [e3];exact zy _ _
  rw [<- e3];have b3:=zst b2 hv3;refine cmo (zlV (d:=1) (l:=1) (m:=1)) ?_;rintro e V4 ⟨rfl,hv4⟩;have b4:=zst b3 hv4;refine cmo (zlV (d:=0) (l:=0) (m:=0)) ?_;rintro e V5 ⟨rfl,hv5⟩;have b5:=zst b4 hv5;refine⟨⟨by decide,by decide,rfl⟩,zA.enc (ldI 1 1 1)++zA.enc (ldI 0 0 0),by kernel_rfl,?_⟩;obtain⟨V6,e6⟩:=nm (V5.alloc (.cells (zA.enc (ldI 1 1 1)++zA.enc (ldI 0 0 0)).toArray 55));have hv6:Bw V5 V6:=by rw [e6];exact (zba _ _)
  have f6:V6.heap[V5.heap.size]?=some (.cells (zA.enc (ldI 1 1 1)++zA.enc (ldI 0 0 0)).toArray 55 (0,0)):=by rw [e6];exact zy _ _
  rw [<- e6];have b6:=zst b5 hv6;refine cmo (zmv (la:=[stI 0 1 0,stI 1 1 2]) (lb:=[ldI 1 1 1,ldI 0 0 0]) (zcM (zb hv6 (zb hv5 (zb hv4 (f3)))) (l:=[stI 0 1 0,stI 1 1 2]) rfl) (zcM (f6) (l:=[ldI 1 1 1,ldI 0 0 0]) rfl) (JR rfl) (JR rfl) (fun a h=>by cases h;exact hlt (zb hv6 (zb hv5 (zb hv4 (f3))))) (fun a h=>by cases h;exact hlt (f6))) ?_;rintro e V7 ⟨⟨vs,rfl,hP⟩,hv7⟩;have b7:=zst b6 hv7;refine cmo (zgg (p:=raP) (V:=[0,1]) (a:=0) (b:=0) (UR _) hP (hG.below b7) zuB zs1) ?_;rintro e V8 ⟨⟨xs,q,c,rfl,h1,h2,h3⟩,hv8⟩;have b8:=zst b7 hv8;have bt:Bw W2 V8:=by
   have c1:=hv1;have c2:=zst c1 hv2;have c3:=zst c2 hv3;have c4:=zst c3 hv4;have c5:=zst c4 hv5;have c6:=zst c5 hv6;have c7:=zst c6 hv7;have c8:=zst c7 hv8;exact c8
  exact⟨(xs,q,c),(cvE rfl rfl),⟨h1,h2,h3⟩,g1.below bt,g2.below bt,b8⟩
 rintro s3 W3 ⟨g3,g1,g2,hb3⟩;refine⟨List zbV×OA×Nat,fun s=>⟨[(1,.slice s1.2.1 s1.1.length s1.2.2),(2,.slice s2.2.1 s2.1.length s2.2.2),(3,.slice s3.2.1 s3.1.length s3.2.2),(4,.slice s.2.1 s.1.length s.2.2)],[]⟩,fun s X=>FndV X coF s.1 s.2.1/\FndV X sbF s1.1 s1.2.1/\FndV X mpF s2.1 s2.2.1/\FndV X raF s3.1 s3.2.1/\Bw w X,?_,?_⟩
 ·have b0:=hb3;refine cmo (zlt (l:=0) (v:=1) (m:=0)) ?_;rintro e V1 ⟨rfl,hv1⟩;have b1:=zst b0 hv1;refine cmo (zlV (d:=0) (l:=0) (m:=0)) ?_;rintro e V2 ⟨rfl,hv2⟩;have b2:=zst b1 hv2;refine⟨⟨by decide,by decide,rfl⟩,zA.enc (stI 0 1 0)++zA.enc (ldI 0 0 0),by kernel_rfl,?_⟩;obtain⟨V3,e3⟩:=nm (V2.alloc (.cells (zA.enc (stI 0 1 0)++zA.enc (ldI 0 0 0)).toArray 55));have hv3:Bw V2 V3:=by rw [e3];exact (zba _ _)
  have f3:V3.heap[V2.heap.size]?=some (.cells (zA.enc (stI 0 1 0)++zA.enc (ldI 0 0 0)).toArray 55 (0,0)):=by rw [e3];exact zy _ _
  rw [<- e3];have b3:=zst b2 hv3;refine cmo (zmv (la:=[stI 0 1 0,ldI 0 0 0]) (lb:=[]) (zcM (f3) (l:=[stI 0 1 0,ldI 0 0 0]) rfl) (.inl rfl) (JR rfl) (JR rfl) (fun a h=>by cases h;exact hlt (f3)) (fun a h=>by cases h)) ?_;rintro e V4 ⟨⟨vs,rfl,hP⟩,hv4⟩;have b4:=zst b3 hv4;refine cmo (zgg (p:=coP) (V:=[0,1]) (a:=0) (b:=0) (UR _) hP (hG.below b4) zuP ztF) ?_;rintro e V5 ⟨⟨xs,q,c,rfl,h1,h2,h3⟩,hv5⟩;have b5:=zst b4 hv5;have bt:Bw W3 V5:=by
   have c1:=hv1;have c2:=zst c1 hv2;have c3:=zst c2 hv3;have c4:=zst c3 hv4;have c5:=zst c4 hv5;exact c5
  exact⟨(xs,q,c),(cvE rfl rfl),⟨h1,h2,h3⟩,g1.below bt,g2.below bt,g3.below bt,b5⟩
 rintro s4 W4 ⟨g4,g1,g2,g3,hb4⟩;obtain⟨l1,n1,o1,y1,q1,d1,at1,v1,say1,_⟩:=g1.at zqV (by decide);obtain⟨l2,n2,o2,y2,q2,d2,at2,v2,say2,r2⟩:=g2.at zrh (by decide);obtain⟨l3,n3,o3,y3,q3,d3,at3,v3,say3,r3⟩:=g3.at zq7 (by decide);obtain⟨l4,n4,o4,y4,q4,d4,at4,v4,say4,_⟩:=g4.at zr5 (by decide);have hTW:=hG.t64.below hb4;have rg2:y2.1.regs 9=1:=by rw [r2];exact ztd
 have rg3:y3.1.regs 9=1:=by rw [r3];exact zs0
 have i2:1<s2.1.length:=by omega
 have i3:1<s3.1.length:=by omega
 have i1:0<s1.1.length:=by omega
 have i4:0<s4.1.length:=by omega
 obtain⟨xs1,p1,c1⟩:=s1;obtain⟨xs2,p2,c2⟩:=s2;obtain⟨xs3,p3,c3⟩:=s3;obtain⟨xs4,p4,c4⟩:=s4;dsimp only at l1 l2 l3 l4 i1 i2 i3 i4 q1 q2 q3 q4 ⊢;subst q1 q2 q3 q4;have no:∀ {n m:Nat},n=m->(!decide ((n:Int)=(m:Int)))=false:=fun {n m} h=>by rw [h,Un rfl];rfl
 refine⟨Unit,fun _=>⟨[(1,.slice (some ⟨n1,o1,none⟩) xs1.length c1),(2,.slice (some ⟨n2,o2,none⟩) xs2.length c2),(3,.slice (some ⟨n3,o3,none⟩) xs3.length c3),(4,.slice (some ⟨n4,o4,none⟩) xs4.length c4)],[]⟩,fun _ X=>W4=X,?_,?_⟩
 ·exact brN (no (m:=1) l1) (brN (no (m:=2) l2) (brN (no (m:=2) l3) (brN (no (m:=1) l4) ⟨(),(cvE rfl rfl),rfl⟩)))
 rintro _ _ rfl;obtain⟨X0,hX0⟩:∃ X0:Value,X0 = .agg (zbo).toArray:=⟨_,rfl⟩;refine⟨Nat×Nat,fun s=>⟨[(1,.slice (some ⟨n1,o1,none⟩) xs1.length c1),(4,.slice (some ⟨n4,o4,none⟩) xs4.length c4),(5,At0 s.1),(6,At0 s.2)],[]⟩,fun s X=>ExH X s.1 y2.1 y2.2.1 y2.2.2/\ExH X s.2 y3.1 y3.2.1 y3.2.2/\Bw W4 X,?_,?_⟩
 ·have dW:Bw W4 W4.drew:=(UW _ _).drew;have zex:Obj.cells (zbo).toArray 46=Obj.cells (zbo).toArray 46:=rfl;have two:∀ {W:Wd},Bw W4 W->Bw W4 ((W.alloc (.cells (zbo).toArray 46)).alloc (.cells (zbo).toArray 46))/\((W.alloc (.cells (zbo).toArray 46)).alloc (.cells (zbo).toArray 46)).heap[W.heap.size]?=some (.cells (zbo).toArray 46 (0,0))/\((W.alloc (.cells (zbo).toArray 46)).alloc (.cells (zbo).toArray 46)).heap[(W.alloc (.cells (zbo).toArray 46)).heap.size]?=some (.cells (zbo).toArray 46 (0,0))/\W.heap.size<(W.alloc (.cells (zbo).toArray 46)).heap.size:=fun {W} hW=>by
   have b1:=hW.alloc hW.size (.cells (zbo).toArray 46);exact⟨b1.alloc b1.size _,qJ _ (zy W _),zy _ _,by rw [wz];omega⟩
  have s8:∀ {W:Wd} {bx bv:Nat},Bw W4 W->W.heap[bx]?=some (.cells (zbo).toArray 46 (0,0))->W.heap[bv]?=some (.cells (zbo).toArray 46 (0,0))->bx≠bv->W4.heap.size<=bx->∀ {K:Wd->Prop},(∀ D,(Bw W4 D/\ExH D bx y2.1 y2.2.1 y2.2.2/\D.heap[bv]?=some (.cells (zbo).toArray 46 (0,0)))->K D)->SatR ((storeVar 46 ⟨bx,0,none⟩ (.agg (exC y2.1 y2.2.1 y2.2.2).toArray)).run PG W) fun _ w'=>K w':=fun {W bx bv} hW fx fy hne hx {K} k =>
   zt (v := .agg (exC y2.1 y2.2.1 y2.2.2).toArray) k46 fx (zD _ _ _) jx (za0 _ _ _) (k _ ⟨zl hW hx _,zn fx,(zq (fun e=>hne e.symm)).trans fy⟩)
  have s9:∀ {W:Wd} {bx bv:Nat},(Bw W4 W/\ExH W bx y2.1 y2.2.1 y2.2.2/\W.heap[bv]?=some (.cells (zbo).toArray 46 (0,0)))->bx≠bv->W4.heap.size<=bv->∀ {K:Wd->Prop},(∀ D,(ExH D bx y2.1 y2.2.1 y2.2.2/\ExH D bv y3.1 y3.2.1 y3.2.2/\Bw W4 D)->K D)->SatR ((storeVar 46 ⟨bv,0,none⟩ (.agg (exC y3.1 y3.2.1 y3.2.2).toArray)).run PG W) fun _ w'=>K w':=fun {W bx bv} h hne hx {K} k =>
   zt (v := .agg (exC y3.1 y3.2.1 y3.2.2).toArray) k46 h.2.2 (zD _ _ _) jx (za0 _ _ _) (k _ ⟨(zq hne).trans h.2.1,zn h.2.2,zl h.1 hx _⟩)
  have hba:∀ (A:Wd) (o:Obj),Bw A (A.alloc o):=fun A o=>(zba _ _);refine DrawE.treeR [8,9] (.op 0 (.op 1 (.op 2 (.op 3 (.op 4 (.alt (.op 6 (.alt (.op 7 (.alt (.op 8 (.op 5 (.op 9 .nil))) (.op 5 (.op 8 (.op 9 .nil))))) (.op 5 (.op 7 (.op 8 (.op 9 .nil)))))) (.alt (.op 7 (.alt (.op 6 (.alt (.op 8 (.op 5 (.op 9 .nil))) (.op 5 (.op 8 (.op 9 .nil))))) (.op 5 (.op 6 (.op 8 (.op 9 .nil)))))) (.op 5 (.alt (.op 6 (.op 7 (.op 8 (.op 9 .nil)))) (.op 7 (.op 6 (.op 8 (.op 9 .nil))))))))))))) (by kernel_rfl) ⟨1,rfl,i2,exC y2.1 y2.2.1 y2.2.2,zD _ _ _,zS dW d2 at2,d2,1,rfl,i3,?_⟩;obtain⟨U,hU⟩:=nm (W4.drew);have bU:Bw W4 U:=by rw [hU];exact dW
  obtain⟨t1,t2,t3,t4⟩:=two bU;have sU:=bU.size;rw [<- hU];refine Ga ?_ ?_
  ·refine⟨hba _ _,Ga ?_ ?_⟩
   ·refine⟨hba _ _,Ga ?_ ?_⟩
    ·exact s8 t1 t2 t3 (by omega) (by omega) fun D hD=>⟨exC y3.1 y3.2.1 y3.2.2,zD _ _ _,zS hD.1 d3 at3,nL d3 (Below.size hD.1),s9 hD (by omega) (by omega) fun F hF=>⟨(_,_),(cvE rfl rfl),hF⟩⟩
    ·exact⟨exC y3.1 y3.2.1 y3.2.2,zD _ _ _,zS t1 d3 at3,nL d3 (Below.size t1),s8 t1 t2 t3 (by omega) (by omega) fun D hD=>s9 hD (by omega) (by omega) fun F hF=>⟨(_,_),(cvE rfl rfl),hF⟩⟩
   ·exact⟨exC y3.1 y3.2.1 y3.2.2,zD _ _ _,zS (bU.alloc sU _) d3 at3,nL d3 (Below.size (bU.alloc sU _)),hba _ _,s8 t1 t2 t3 (by omega) (by omega) fun D hD=>s9 hD (by omega) (by omega) fun F hF=>⟨(_,_),(cvE rfl rfl),hF⟩⟩
  ·refine Ga ?_ ?_
   ·refine⟨hba _ _,Ga ?_ ?_⟩
    ·refine⟨hba _ _,Ga ?_ ?_⟩
     ·exact s8 t1 t3 t2 (by omega) (by omega) fun D hD=>⟨exC y3.1 y3.2.1 y3.2.2,zD _ _ _,zS hD.1 d3 at3,nL d3 (Below.size hD.1),s9 hD (by omega) (by omega) fun F hF=>⟨(_,_),(cvE rfl rfl),hF⟩⟩
     ·exact⟨exC y3.1 y3.2.1 y3.2.2,zD _ _ _,zS t1 d3 at3,nL d3 (Below.size t1),s8 t1 t3 t2 (by omega) (by omega) fun D hD=>s9 hD (by omega) (by omega) fun F hF=>⟨(_,_),(cvE rfl rfl),hF⟩⟩
    ·exact⟨exC y3.1 y3.2.1 y3.2.2,zD _ _ _,zS (bU.alloc sU _) d3 at3,nL d3 (Below.size (bU.alloc sU _)),hba _ _,s8 t1 t3 t2 (by omega) (by omega) fun D hD=>s9 hD (by omega) (by omega) fun F hF=>⟨(_,_),(cvE rfl rfl),hF⟩⟩
   ·refine⟨exC y3.1 y3.2.1 y3.2.2,zD _ _ _,zS bU d3 at3,nL d3 (Below.size bU),Ga ?_ ?_⟩
    ·exact⟨hba _ _,hba _ _,s8 t1 t2 t3 (by omega) (by omega) fun D hD=>s9 hD (by omega) (by omega) fun F hF=>⟨(_,_),(cvE rfl rfl),hF⟩⟩
    ·exact⟨hba _ _,hba _ _,s8 t1 t3 t2 (by omega) (by omega) fun D hD=>s9 hD (by omega) (by omega) fun F hF=>⟨(_,_),(cvE rfl rfl),hF⟩⟩
 rintro⟨bx,bv⟩ X ⟨fx,fv,hbX⟩;dsimp only at fx fv ⊢;have bw:=zst hb4 hbX;have ex9:(exC y2.1 y2.2.1 y2.2.2)[304]?=some (u8 (y2.1.regs 9)):=zgh y2.1 y2.2.1 y2.2.2 (i:=9) (by decide);have ev9:(exC y3.1 y3.2.1 y3.2.2)[304]?=some (u8 (y3.1.regs 9)):=zgh y3.1 y3.2.1 y3.2.2 (i:=9) (by decide);have one:∀ {r:UInt8},r=1->decide ((r.toNat:Int)=1)=true:=fun h=>by rw [h];rfl
 refine⟨1,rfl,by decide,?_⟩;refine⟨1,rfl,by decide,?_⟩;refine⟨u8 (y2.1.regs 9),zc (za fx) ex9,brE (one rg2) ⟨1,rfl,by decide,?_⟩⟩;refine⟨1,rfl,by decide,?_⟩;refine⟨u8 (y3.1.regs 9),zc (za fv) ev9,brE (one rg3) ⟨0,rfl,i1,exC y1.1 y1.2.1 y1.2.2,zD _ _ _,zS hbX d1 at1,nL d1 (Below.size hbX),⟨by decide,by decide,rfl⟩,[u8 0,u8 3,u8 0,u8 0,u8 0,u8 0],rfl,?_⟩⟩;obtain⟨T0,eT0⟩:∃ T,T=X.alloc (.cells ([u8 0,u8 3,u8 0,u8 0,u8 0,u8 0]:List Value).toArray 5):=⟨_,rfl⟩;have ba0:Bw X T0:=by rw [eT0];exact (zba _ _)
 have fa0:T0.heap[X.heap.size]?=some (.cells ([u8 0,u8 3,u8 0,u8 0,u8 0,u8 0]:List Value).toArray 5 (0,0)):=by rw [eT0];exact zy _ _
 rw [<- eT0];have bt0:=zst hbX ba0;refine cmo (ziX (ws:=[0,3,0,0,0,0]) (v1.below bt0) (hTW.below bt0) (SlR.of_cells (hlt fa0) (by exact za fa0)) say1 (by decide)) ?_;rintro e Z1 ⟨rfl,hz1⟩;have bz1:=zst bt0 hz1;have k1:=zst ba0 hz1;refine brT ⟨exC y2.1 y2.2.1 y2.2.2,zD _ _ _,za (zb k1 fx),hlt (zb k1 fx),⟨by decide,by decide,rfl⟩,[u8 0,u8 3,u8 3,u8 0,u8 0,u8 0],rfl,?_⟩;obtain⟨T1,eT1⟩:∃ T,T=Z1.alloc (.cells ([u8 0,u8 3,u8 3,u8 0,u8 0,u8 0]:List Value).toArray 5):=⟨_,rfl⟩;have ba1:Bw Z1 T1:=by rw [eT1];exact (zba _ _)
 have fa1:T1.heap[Z1.heap.size]?=some (.cells ([u8 0,u8 3,u8 3,u8 0,u8 0,u8 0]:List Value).toArray 5 (0,0)):=by rw [eT1];exact zy _ _
 rw [<- eT1];have bt1:=zst bz1 ba1;refine cmo (ziX (ws:=[0,3,3,0,0,0]) (v2.below bt1) (hTW.below bt1) (SlR.of_cells (hlt fa1) (by exact za fa1)) say2 (by decide)) ?_;rintro e Z2 ⟨rfl,hz2⟩;have bz2:=zst bt1 hz2;have k2:=((zst k1 ba1)).trans (hz2.mono (by have:=k1.size;have:=ba1.size;omega));refine brT ⟨exC y3.1 y3.2.1 y3.2.2,zD _ _ _,za (zb k2 fv),hlt (zb k2 fv),⟨by decide,by decide,rfl⟩,[u8 0,u8 3,u8 3,u8 0,u8 3,u8 0],rfl,?_⟩;obtain⟨T2,eT2⟩:∃ T,T=Z2.alloc (.cells ([u8 0,u8 3,u8 3,u8 0,u8 3,u8 0]:List Value).toArray 5):=⟨_,rfl⟩;have ba2:Bw Z2 T2:=by rw [eT2];exact (zba _ _)
 have fa2:T2.heap[Z2.heap.size]?=some (.cells ([u8 0,u8 3,u8 3,u8 0,u8 3,u8 0]:List Value).toArray 5 (0,0)):=by rw [eT2];exact zy _ _
 rw [<- eT2];have bt2:=zst bz2 ba2;refine cmo (ziX (ws:=[0,3,3,0,3,0]) (v3.below bt2) (hTW.below bt2) (SlR.of_cells (hlt fa2) (by exact za fa2)) say3 (by decide)) ?_;rintro e Z3 ⟨rfl,hz3⟩;have bz3:=zst bt2 hz3;have k3:=((zst k2 ba2)).trans (hz3.mono (by have:=k2.size;have:=ba2.size;omega));refine brT ⟨0,rfl,i4,exC y4.1 y4.2.1 y4.2.2,zD _ _ _,zS bz3 d4 at4,nL d4 (Below.size bz3),⟨by decide,by decide,rfl⟩,[u8 1,u8 1,u8 1,u8 1,u8 1,u8 1],rfl,?_⟩;obtain⟨T3,eT3⟩:∃ T,T=Z3.alloc (.cells ([u8 1,u8 1,u8 1,u8 1,u8 1,u8 1]:List Value).toArray 5):=⟨_,rfl⟩;have ba3:Bw Z3 T3:=by rw [eT3];exact (zba _ _)
 have fa3:T3.heap[Z3.heap.size]?=some (.cells ([u8 1,u8 1,u8 1,u8 1,u8 1,u8 1]:List Value).toArray 5 (0,0)):=by rw [eT3];exact zy _ _
 rw [<- eT3];have bt3:=zst bz3 ba3;refine cmo (ziX (ws:=[1,1,1,1,1,1]) (v4.below bt3) (hTW.below bt3) (SlR.of_cells (hlt fa3) (by exact za fa3)) say4 (by decide)) ?_;rintro e Z4 ⟨rfl,hz4⟩;have bz4:=zst bt3 hz4;have k4:=((zst k3 ba3)).trans (hz4.mono (by have:=k3.size;have:=ba3.size;omega));exact⟨rfl,(zst hb4 bz4)⟩
def zud (x y:ExD):Bool:=(List.range 32).all (fun i=>decide (x.regs i=y.regs i))&&(List.range 6).all (fun i=>decide (x.mem i=y.mem i))
def zj8 (x y:ExD):Bool:=jt x.po y.po&&(jt x.rf y.rf&&(jt x.co y.co&&(jt x.dt y.dt&&(jt x.ct y.ct&&(jt x.rm y.rm&&zud x y)))))
def zpa (x y:ExD):Bool:=decide (x.ev.length=y.ev.length)&&((List.range x.ev.length).all (fun i=>decide (evA x i=evA y i))&&zj8 x y)
theorem ziy (before:Nat->Nat):∀ (n left:Nat) (l:List Nat),left<2^64->(zao before n left l).Nodup
 | 0,left,l,hl=>by
  unfold zao
  split
  ·exact List.pairwise_singleton ..
  ·exact .nil
 | n+1,left,l,hl=>by
  unfold zao
  split
  ·exact List.pairwise_singleton ..
  ·show List.Pairwise _ _;rw [List.pairwise_flatMap];refine⟨fun a ha=>?_,List.Pairwise.imp_of_mem ?_ (zdN left)⟩
   ·split
    ·exact ziy before n _ _ (zag hl)
    ·exact .nil
   ·intro a b ha hb hab x hx y hy e
    split at hx
    ·split at hy
     ·obtain⟨s,hs,_⟩:=zeR before n _ _ x (zag hl) hx;obtain⟨t,ht,_⟩:=zeR before n _ _ y (zag hl) hy;rw [hs,ht,KL,KL] at e;have:=List.append_cancel_left e;simp only [List.singleton_append,QG] at this;exact hab this.1
     ·cases hy
    ·cases hx
theorem zpQ {w:List Nat} (hw:w.Nodup) {a b:Nat} (ha:a<w.length) (hb:b<w.length) (h:w.getD a 0=w.getD b 0):a=b:=by
 rw [gDe,gDe,gE ha,gE hb] at h;exact (List.getElem_inj hw).1 h
theorem zfG {w:List Nat} (hw:w.Nodup):∀ {a b:List Nat},(∀ i∈a,i<w.length)->(∀ i∈b,i<w.length)->a.map (fun k=>w.getD k 0)=b.map (fun k=>w.getD k 0)->a=b
 | [],[],_,_,_=>rfl
 | [],y::b,_,_,h=>by cases h
 | x::a,[],_,_,h=>by cases h
 | x::a,y::b,ha,hb,h=>by
  rw [Ux,Ux,QG] at h;rw [zpQ hw (ha x Kx) (hb y Kx) h.1,zfG hw (fun i hi=>ha i (JW _ hi)) (fun i hi=>hb i (JW _ hi)) h.2]
theorem zke {w:List Nat} (hw:w.Nodup) (h1:1<=w.length) (hn:w.length<=48):(zM w).Nodup:=by
 unfold zM;dsimp only
 split
 ·refine List.pairwise_map.2 (List.Pairwise.imp_of_mem (R:=fun a b=>a≠b) ?_ ?_)
  ·intro a b ha hb hab e;have p1:=(zgP h1 hn ha).1;have p2:=(zgP h1 hn hb).1;exact hab (zfG hw (fun i hi=>Uj.1 (p1.subset hi)) (fun i hi=>Uj.1 (p2.subset hi)) e)
  ·unfold zbq
   split
   ·exact ziy _ _ _ _ (zdU _)
   ·exact .nil
 ·exact .nil
theorem zlJ (all:List Ev) (W:List (List Nat)):∀ (es:List Ev) (i:Nat),(zbL all W i es).Pairwise fun a b=>a.1<b.1
 | [],i => .nil
 | e::es,i=>by
  unfold zbL
  split
  ·refine List.pairwise_cons.2 ⟨fun r hr=>?_,zlJ all W es (i+1)⟩;obtain⟨j,d,_,_,h⟩:=zdC all W es (i+1) r hr;rw [h];show i<i+1+j;omega
  ·exact zlJ all W es (i+1)
theorem zmU {α:Type} {key:α->Nat}:∀ {l:List α},l.Pairwise (fun a b=>key a<key b)->∀ {s t:Nat} {a b:α},l[s]?=some a->l[t]?=some b->key a=key b->s=t
 | [],_,s,t,a,b,h,_,_=>by simp at h
 | x::l,h,0,0,a,b,_,_,_=>rfl
 | x::l,h,0,t+1,a,b,ha,hb,e=>by
  have ha:=Ua ha;have:=(List.pairwise_cons.1 h).1 b (JY hb);rw [ha] at this;omega
 | x::l,h,s+1,0,a,b,ha,hb,e=>by
  have hb:=Ua hb;have:=(List.pairwise_cons.1 h).1 a (JY ha);rw [hb] at this;omega
 | x::l,h,s+1,t+1,a,b,ha,hb,e=>by rw [zmU (List.pairwise_cons.1 h).2 ha hb e]
theorem zpj {a b:RelD} (h:jt a b=true) {i:Nat} (hi:i<48):a.to i=b.to i:=by
 unfold jt at h;rw [bAT,Qg] at h;exact dT (h.2 i (Uj.2 hi))
theorem zlx {x y:ExD} (h:zpa x y=true):x.ev=y.ev/\jt x.rf y.rf=true/\jt x.co y.co=true:=by
 unfold zpa zj8 at h;simp only [bAT] at h;obtain⟨h1,h2,_,h3,h4,_⟩:=h;refine⟨?_,h3,h4⟩;have h1:=dT h1;refine List.ext_getElem h1 fun i a b=>?_;have:=dT (Qg.1 h2 i (Uj.2 a));unfold evA at this;rw [gDe,gDe,gE a,gE b] at this;exact this
section
variable {init:List UInt8} {Ps:List PathD} {m:MixD} {ds es:List Nat}
theorem ChoiceW.dig_r (h:ChoiceW init Ps m) (hd:ds∈qa (zL m)) {t:Nat} {r:Nat×List Nat} (hr:m.rs[t]?=some r):∃ d,ds[t]?=some d/\d<r.2.length:=by
 obtain⟨h1,h2⟩:=za1 hd;have ht:=(Jr.1 hr).1;have hs:(zL m)[t]?=some r.2.length:=by
  unfold zL;rw [Jq (by rw [QI];exact ht),KR,hr];rfl
 have hlen:t<ds.length:=by rw [h1];exact (Jr.1 hs).1
 exact⟨ds[t],gE hlen,h2 _ _ _ hs (gE hlen)⟩
theorem ChoiceW.wr_nodup (h:ChoiceW init Ps m) (l:Nat):(m.wr.getD l []).Nodup:=by
 by_cases hl:l<init.length
 ·rw [h.wr.2 l hl];exact List.nodup_range.filter _
 ·rw [gDe,JJ (by rw [h.wr.1];omega)];exact .nil
theorem ChoiceW.rf_dig (h:ChoiceW init Ps m) (hd:ds∈qa (zL m)) (he:es∈qa (zL m)) (hs:jt (zw m ds).rf (zw m es).rf=true) {t:Nat} (ht:t<m.rs.length):ds[t]?=es[t]?:=by
 have hr:m.rs[t]?=some m.rs[t]:=gE ht;obtain⟨d,d1,d2⟩:=h.dig_r hd hr;obtain⟨e,e1,e2⟩:=h.dig_r he hr;have hn:m.rs[t].2.Nodup:=by
  obtain⟨_,_,_,hr2⟩:=h.rs (gM ht);rw [hr2];exact (h.wr_nodup _).filter _
 have hi:m.rs[t].2[d]?=some m.rs[t].2[d]:=gE d2;have b1:zh (zw m ds).rf m.rs[t].2[d] m.rs[t].1=true:=(h.rfb hd).2 ⟨t,_,hr,gM d2,by rw [gDe,d1];exact hi,rfl⟩;have h48:m.rs[t].2[d]<48:=by
  have:=(h.src (gM ht)).2.2 _ (gM d2);have:=h.n;rw [<- h.len] at this;omega
 have b2:zh (zw m es).rf m.rs[t].2[d] m.rs[t].1=true:=by
  unfold zh at b1 ⊢;rw [<- zpj hs h48];exact b1
 obtain⟨t',r',g1,_,g3,g4⟩:=(h.rfb he).1 b2;have hp:m.rs.Pairwise fun a b=>a.1<b.1:=by
  rw [h.m];exact zlJ _ _ _ _
 have htt:=zmU (key:=fun a:Nat×List Nat=>a.1) hp hr g1 g4;subst htt;have hrr:=Ua (hr.symm.trans g1);rw [<- hrr,gDe,e1] at g3;have g3:m.rs[t].2[e]?=some m.rs[t].2[d]:=g3;rw [gE e2] at g3;have:=(List.getElem_inj hn).1 (Ua g3);rw [d1,e1,this]
theorem ChoiceW.dig_w (h:ChoiceW init Ps m) (hd:ds∈qa (zL m)) {l:Nat} (hl:l<init.length):∃ d,ds[m.rs.length+l]?=some d/\∃ hlt:d<(zM (qc m.base l)).length,chR (m.wr.map zM) (ds.drop m.rs.length) l=(zM (qc m.base l))[d]:=by
 obtain⟨h1,h2⟩:=za1 hd;obtain⟨w1,w2⟩:=h.wr;have hlw:l<m.wr.length:=by omega
 have hw:m.wr[l]=qc m.base l:=by
  have:=w2 l hl;rw [gDe,gE hlw] at this;exact this
 have hs:(zL m)[m.rs.length+l]?=some (zM (qc m.base l)).length:=by
  unfold zL;rw [Jm (by rw [QI];omega),QI,Jy,KR,gE hlw,hw];rfl
 have hlen:m.rs.length+l<ds.length:=by rw [h1];exact (Jr.1 hs).1
 have hdl:=h2 _ _ _ hs (gE hlen);refine⟨ds[m.rs.length+l],gE hlen,hdl,?_⟩;have e1:(m.wr.map zM).getD l []=zM (qc m.base l):=by
  rw [gDe,KR,gE hlw,hw];rfl
 have e2:(ds.drop m.rs.length).getD l 0=ds[m.rs.length+l]:=by
  rw [gDe,Ku,gE hlen];rfl
 unfold chR;rw [e1,e2,gDe,gE hdl];rfl
theorem ChoiceW.co_dig (h:ChoiceW init Ps m) (hd:ds∈qa (zL m)) (he:es∈qa (zL m)) (hs:jt (zw m ds).co (zw m es).co=true) {l:Nat} (hl:l<init.length):ds[m.rs.length+l]?=es[m.rs.length+l]?:=by
 obtain⟨d,d1,d2,d3⟩:=h.dig_w hd hl;obtain⟨e,e1,e2,e3⟩:=h.dig_w he hl;obtain⟨c1,c2⟩:=h.chx he;have hlw:l<(m.wr.map zM).length:=by rw [QI,h.wr.1];exact hl
 obtain⟨_,hb⟩:=zdq m.base.ev (m.wr.map zM) 0 (es.drop m.rs.length) (m.base.co,m.base.mem) c1 c2;have hr:z5 (zw m ds) l=chR (m.wr.map zM) (es.drop m.rs.length) l:=by
  refine zgD (zcy h) (h.ch he l hl).1 fun i hi j=>?_;have hi48:i<48:=by
   have:=ze3 ((h.ch he l hl).1.subset hi);have:=h.n;rw [<- h.len] at this;omega
  have e:zh (zw m ds).co i j=zh (coG m.base.ev 0 (m.wr.map zM) (es.drop m.rs.length) (m.base.co,m.base.mem)).1 i j:=by
   unfold zh;rw [zpj hs hi48];rfl
  rw [e,Bool.eq_iff_iff,hb,dE];constructor
  ·rintro (⟨k,a1,a2,a3⟩ | ⟨a1,a2⟩)
   ·have:=c2 i k l a1 hlw a2 hi;rw [<- this];exact a3
   ·exact Gj hi (a1 l hlw)
  ·exact fun hj => .inl ⟨l,hlw,hi,hj⟩
 rw [h.rank hd hl,d3,e3] at hr;obtain⟨g1,_⟩:=h.head hl;have h48:(qc m.base l).length<=48:=by
  have:=zf2 m.base l;have:=h.n;have:=h.len;omega
 have:=(List.getElem_inj (zke (List.nodup_range.filter _) g1 h48)).1 hr;rw [d1,e1,this]
theorem ChoiceW.same (h:ChoiceW init Ps m) (hd:ds∈qa (zL m)) (he:es∈qa (zL m)) (hs:zpa (zw m ds) (zw m es)=true):ds=es:=by
 obtain⟨_,h2,h3⟩:=zlx hs;have l1:=(za1 hd).1;have l2:=(za1 he).1;have hl:(zL m).length=m.rs.length+init.length:=by
  unfold zL;rw [lap,QI,QI,h.wr.1]
 refine KM fun t=>?_;by_cases ht:t<m.rs.length
 ·exact h.rf_dig hd he h2 ht
 ·by_cases ht2:t<m.rs.length+init.length
  ·have:=h.co_dig hd he h3 (l:=t-m.rs.length) (by omega);rw [show m.rs.length+(t-m.rs.length)=t by omega] at this;exact this
  ·rw [JJ (by omega),JJ (by omega)]
end
theorem zm8 (before:Nat->Nat):∀ (s:List Nat) (n left:Nat) (l:List Nat),left<2^64->s.length<=n->s.Perm (els left)->(∀ A a t,s=A++a::t->∀ b∈a::t,(before a).testBit b=false)->l++s∈zao before n left l
 | [],n,left,l,hl,hn,hp,hb=>by
  have h0:left=0:=zcQ hl (by rw [Qo];exact List.nil_perm.1 hp);rw [QF]
  cases n <;> (unfold zao;rw [Gi h0];exact Ky.2 rfl)
 | a::t,0,left,l,hl,hn,hp,hb=>by simp at hn
 | a::t,n+1,left,l,hl,hn,hp,hb=>by
  have ha:a∈els left:=hp.subset Kx;have h0:left≠0:=fun e=>by rw [e,zah] at ha;cases ha
  unfold zao;rw [Gh h0];refine List.mem_flatMap.2 ⟨a,ha,?_⟩;have hbl:before a&&&left=0:=by
   refine Kb fun i=>?_;rw [QX,QA];by_cases hi:left.testBit i=true
   ·have hi64:i<64:=by
     refine Qw fun h=>?_;rw [JH (nL hl (Kc (by decide) h))] at hi
     cases hi
    rw [hb [] a t rfl i (hp.symm.subset (qM.2 ⟨hi64,hi⟩)),Ue]
   ·rw [Qf] at hi;rw [hi,Ud]
  rw [Gi hbl,zaW];have hna:a ∉ t:=(QQ.1 (hp.nodup_iff.2 (zdN left))).1;have hpt:t.Perm (els (qP left (2^a))):=by
   rw [zdn hl ha];have h1:=hp.filter fun i => !decide (i=a);rw [Qk,Gh (by simp),List.filter_eq_self.2 fun z hz=>by
    have:z≠a:=fun e=>hna (by rw [<- e];exact hz);simp [this]] at h1
   exact h1
  have h2:=zm8 before t n (qP left (2^a)) (l++[a]) (zag hl) (by simpa using hn) hpt fun A c u e b hbm=>hb (a::A) c u (by rw [e];rfl) b hbm;rw [KL] at h2;exact h2
section
variable {n:Nat}
theorem zkW (hn:n<=48) {a b:Nat} (ha:a<n) (h:((zV (crs n)).to a).testBit b=true):b=0/\a≠0:=by
 have h1:=zbf (zjq hn) (i:=a) (j:=b) (by omega);unfold zh at h1;rw [h1,bAT] at h;obtain⟨hb,h⟩:=h;have hb:=dT hb;have h:(if b<n then (if Nat.testBit 1 b then jE (j7 n) 1&&&j7 n else 0) else 0).testBit a=true:=h;rw [Gi hb] at h
 split at h
 ·rename_i h2;have hb0:b=0:=by
   refine Nat.eq_zero_of_not_pos fun hp=>?_;rw [JH (show 1<2^b from Nat.one_lt_two_pow (by omega))] at h2
   cases h2
  refine⟨hb0,fun ha0=>?_⟩;rw [QX,zaW,bAT] at h;have e:qP (j7 n) 1=qP (j7 n) (2^0):=rfl;rw [e,zaO (by decide) (by omega),ha0] at h;simp at h
 ·rw [QA] at h;cases h
theorem zrW (hn:n<=48):zaw (crs n)=true:=by
 rw [zgm (zjq hn)];intro S hS he;have hS64:S<2^64:=by
  refine KC ?_ (zaH (n:Int));rw [<- he];exact Qu
 have hin:∀ i,S.testBit i=true->i<n:=fun i hi=>by
  have h1:i<64:=by
   refine Qw fun h=>?_;rw [JH (nL hS64 (Kc (by decide) h))] at hi
   cases hi
  rw [<- he,QX,bAT] at hi;rw [zbm (by omega) (by omega) h1] at hi;have:=dT hi.2;omega
 have free:∀ a,a<n->(∀ b,S.testBit b=true->b=0->a=0)->(zV (crs n)).to a&&&S=0:=fun a ha h=>by
  refine Kb fun i=>?_;rw [QX,QA]
  cases h1:((zV (crs n)).to a).testBit i
  ·rfl
  ·obtain⟨h2,h3⟩:=zkW hn ha h1
   cases h4:S.testBit i
   ·rfl
   ·exact Gj (h i h4 h2) h3
 by_cases h0:S.testBit 0=true
 ·exact⟨0,qM.2 ⟨by decide,h0⟩,free 0 (hin 0 h0) fun _ _ _=>rfl⟩
 ·have hne:els S≠[]:=fun e=>hS (zcQ hS64 (by rw [e];rfl));obtain⟨a,t,hat⟩:=List.exists_cons_of_ne_nil hne;have ha:a∈els S:=by rw [hat];exact Kx
  exact⟨a,ha,free a (hin a (qM.1 ha).2) fun b hb hb0=>by rw [hb0] at hb;exact Gj hb h0⟩
theorem zrd (hn:n<=48) {o t:List Nat} (hp:o.Perm (List.range n)) (h0:o=0::t):o∈zbq (crs n):=by
 unfold zbq;rw [Gi (zrW hn)];have e:els (j7 ((n:Nat):Int))=List.range n:=by rw [zaI];exact zdO (by omega)
 have hl:=hp.length_eq;rw [KS] at hl;have:=zm8 (zV (crs n)).to o 64 (j7 ((n:Nat):Int)) [] (zdU n) (by omega) (by rw [e];exact hp) fun A a u he b hb=>?_
 ·exact this
 have hao:a∈o:=by rw [he];exact JN _ Kx
 cases h1:((zV (crs n)).to a).testBit b
 ·rfl
 ·obtain⟨h2,h3⟩:=zkW hn (Uj.1 (hp.subset hao)) h1;have hon:o.Nodup:=hp.nodup_iff.2 List.nodup_range
  cases A with
  | nil =>
   rw [h0,QO,QG] at he;exact Gj he.1.symm h3
  | cons c A =>
   rw [h0,Qi,QG] at he;rw [h0] at hon;have:(0:Nat)∈t:=by rw [he.2,<- h2];exact JN _ hb
   exact Gj this (QQ.1 hon).1
end
theorem zpR {w:List Nat} {x:Nat} (h:x∈w):w.getD (w.idxOf x) 0=x:=by
 have hl:=List.idxOf_lt_length_iff.2 h;rw [gDe,gE hl];exact List.getElem_idxOf hl
theorem zrk {w:List Nat} (hw:w.Nodup):w.map (fun x=>w.idxOf x)=List.range w.length:=by
 refine List.ext_getElem (by simp) fun i h1 h2=>?_;rw [Qn,Kw];exact hw.idxOf_getElem i (by simpa using h1)
theorem zpl {w rk:List Nat} (hn:w.length<=48) (hw:w.Nodup) (hf:fct (w.length-1)<=10000) (h1:1<=w.length) (hp:rk.Perm w) (hh:rk.headD 48=w.headD 48):rk∈zM w:=by
 unfold zM;dsimp only;rw [Gi (UI (zii h1 hn) hf)];refine UF.2 ⟨rk.map (fun x=>w.idxOf x),?_,?_⟩
 ·cases w with
  | nil=>simp at h1
  | cons a w' =>
   cases rk with
   | nil=>simpa using hp.length_eq
   | cons b rk' =>
    have hh:b=a:=hh;subst hh;refine zrd hn (t:=rk'.map (fun x=>(b::w').idxOf x)) ?_ ?_
    ·rw [<- zrk hw];exact hp.map _
    ·rw [Ux,List.idxOf_cons_self]
 ·rw [UD]
  conv=>rhs;rw [<- List.map_id rk]
  exact Ki fun x hx=>zpR (hp.subset hx)
theorem zp7:∀ (rs es:List Nat),es.length=rs.length->(∀ (i n d:Nat),rs[i]?=some n->es[i]?=some d->d<n)->∃ j,j<z6 rs/\zau rs j=es
 | [],[],_,_=>⟨0,Nat.one_pos,rfl⟩
 | [],e::es,h,_=>by cases h
 | n::ns,[],h,_=>by cases h
 | n::ns,e::es,h,hb=>by
  obtain⟨j,h1,h2⟩:=zp7 ns es (by simpa using h) fun i n d a b=>hb (i+1) n d a b;have he:e<n:=hb 0 n e rfl rfl;refine⟨e+n*j,?_,?_⟩
  ·show e+n*j<n*z6 ns;have:n*(j+1)<=n*z6 ns:=Nat.mul_le_mul_left n h1;rw [Nat.mul_add] at this;omega
  ·show (e+n*j)%n::zau ns ((e+n*j)/n)=e::es;rw [Nat.add_mul_mod_self_left,Qz he,Nat.add_mul_div_left _ _ (by omega),Nat.div_eq_of_lt he,UM,h2]
theorem zp6 {sizes ds:List Nat} (hl:ds.length=sizes.length) (hb:∀ (i n d:Nat),sizes[i]?=some n->ds[i]?=some d->d<n):ds∈qa sizes:=by
 obtain⟨j,h1,h2⟩:=zp7 sizes.reverse ds.reverse (by simpa using hl) fun i n d a b=>by
  have hi:i<sizes.length:=by simpa using (Jr.1 a).1
  rw [JK hi] at a;rw [JK (by omega)] at b;rw [hl] at b;exact hb _ n d a b
 exact UF.2 ⟨j,Uj.2 h1,by rw [h2,Ka]⟩
section
variable {init:List UInt8} {Ps:List PathD} {m:MixD}
theorem ChoiceW.pick (h:ChoiceW init Ps m) (hw8:∀ w∈m.wr,fct (w.length-1)<=10000) {S:Nat->Nat->Prop} {o:Nat->List Nat} (hsrc:∀ r,r<m.base.ev.length->(evA m.base r).k=1->∃ s,(s<m.base.ev.length/\(evA m.base s).k=2/\(evA m.base s).l=(evA m.base r).l/\(evA m.base s).v=(evA m.base r).v)/\S s r) (ho:∀ l,l<init.length->(o l).Perm (qc m.base l)/\(o l).headD 48=(qc m.base l).headD 48) :
  jv m 1≠0/\∃ ds∈qa (zL m),(∀ s r,zh (zw m ds).rf s r=true->S s r)/\∀ a b,zh (zw m ds).co a b=true->∃ l,l<init.length/\a∈o l/\b∈twl (o l).reverse a:=by
 have hin:∀ (t:Nat) (r:Nat×List Nat),m.rs[t]?=some r->∃ (d s:Nat),r.2[d]?=some s/\S s r.1:=fun t r hr=>by
  obtain⟨e,e1,e2,e3⟩:=h.rs (JY hr);have hrl:=(Jr.1 e1).1;have hev:evA m.base r.1=e:=by unfold evA;rw [gDe,e1];rfl
  obtain⟨s,hs⟩:=hsrc r.1 hrl (by rw [hev];exact e2);obtain⟨⟨s1,s2,s3,s4⟩,hs0⟩:=hs;have hloc:e.l.toNat<init.length:=by
   have:e∈(j6 init Ps).ev:=by rw [<- h.base];exact JY e1
   exact zcC h.i6 h.P this (.inl e2)
  rw [h.wr.2 _ hloc] at e3;have:s∈r.2:=by
   rw [e3];rw [hev] at s3 s4;exact QN.2 ⟨zeL.2 ⟨s1,Un s2,by rw [s3]⟩,Un s4⟩
  obtain⟨d,hd⟩:=List.mem_iff_getElem?.1 this;exact⟨d,s,hd,hs0⟩
 have hwl:∀ (l:Nat) (w:List Nat),m.wr[l]?=some w->l<init.length/\w=qc m.base l:=fun l w hw=>by
  have hl:=(Jr.1 hw).1;rw [h.wr.1] at hl;have:=h.wr.2 l hl;rw [gDe,hw] at this;exact⟨hl,this⟩
 have hwr:∀ (l:Nat) (w:List Nat),m.wr[l]?=some w->∃ d,(zM w)[d]?=some (o l):=fun l w hw=>by
  have hwm:=JY hw;obtain⟨w1,w2⟩:=h.w1 hwm;obtain⟨hl,rfl⟩:=hwl l w hw;obtain⟨o1,o2⟩:=ho l hl;exact List.mem_iff_getElem?.1 (zpl w2 (List.nodup_range.filter _) (hw8 _ hwm) w1 o1 o2)
 have hch:∀ i:Nat,∃ d:Nat,(∀ r,m.rs[i]?=some r->∃ s,r.2[d]?=some s/\S s r.1)/\∀ (l:Nat) (w:List Nat),i=m.rs.length+l->m.wr[l]?=some w->(zM w)[d]?=some (o l):=fun i=>by
  by_cases hi:i<m.rs.length
  ·obtain⟨d,s,h1,h2⟩:=hin i _ (gE hi);exact⟨d,fun r hr=>(by rw [gE hi] at hr;rw [<- Ua hr];exact⟨s,h1,h2⟩),fun l w e _=>(by omega)⟩
  ·cases hg:m.wr[i-m.rs.length]? with
   | none =>
    refine⟨0,fun r hr=>?_,fun l w e hw=>?_⟩
    ·rw [JJ (by omega)] at hr
     cases hr
    ·rw [show i-m.rs.length=l by omega,hw] at hg
     cases hg
   | some w' =>
    obtain⟨d,hd⟩:=hwr _ _ hg;refine⟨d,fun r hr=>?_,fun l w e hw=>?_⟩
    ·rw [JJ (by omega)] at hr
     cases hr
    ·have el:i-m.rs.length=l:=(by omega);rw [el] at hg hd;rw [hw] at hg;rw [Ua hg];exact hd
 obtain⟨f,hf⟩:=Classical.axiomOfChoice hch;have hsl:(zL m).length=m.rs.length+m.wr.length:=by
  unfold zL;rw [lap,QI,QI]
 obtain⟨ds,hds⟩:=nm ((List.range (zL m).length).map f);have hdl:ds.length=(zL m).length:=by rw [hds,QI,KS]
 have hda:∀ i,i<(zL m).length->ds[i]?=some (f i):=fun i hi=>by rw [hds,KR,Kf hi];rfl
 have hdm:ds∈qa (zL m):=zp6 hdl fun i n d hn hd=>by
  have hi:i<(zL m).length:=(Jr.1 hn).1;rw [hda i hi] at hd;rw [<- Ua hd];unfold zL at hn;by_cases hir:i<m.rs.length
  ·rw [Jq (by rw [QI];exact hir),KR,gE hir] at hn;obtain⟨s,h1,_⟩:=(hf i).1 _ (gE hir);have:=(Jr.1 h1).1;have hn:m.rs[i].2.length=n:=Ua hn;omega
  ·have hiw:i-m.rs.length<m.wr.length:=by omega
   rw [Jm (by rw [QI];omega),QI,KR,gE hiw] at hn;have h1:=(hf i).2 (i-m.rs.length) _ (by omega) (gE hiw);have:=(Jr.1 h1).1;have hn:(zM m.wr[i-m.rs.length]).length=n:=Ua hn;omega
 refine⟨?_,ds,hdm,fun s r hb=>?_,fun a b hb=>?_⟩
 ·refine (zdr fun w hw=>(h.w1 hw).1).2 fun r hr e=>?_;obtain⟨t,ht⟩:=List.mem_iff_getElem?.1 hr;obtain⟨d,s,h1,_⟩:=hin t r ht;rw [e] at h1;simp at h1
 ·obtain⟨t,r',g1,g2,g3,g4⟩:=(h.rfb hdm).1 hb;have ht:=(Jr.1 g1).1;rw [gDe,hda t (by omega)] at g3;have g3:r'.2[f t]?=some s:=g3;obtain⟨s',h1,h2⟩:=(hf t).1 r' g1;rw [h1] at g3;rw [<- Ua g3,g4];exact h2
 ·obtain⟨c1,c2⟩:=h.chx hdm;obtain⟨_,hbits⟩:=zdq m.base.ev (m.wr.map zM) 0 (ds.drop m.rs.length) (m.base.co,m.base.mem) c1 c2;have hb:zh (coG m.base.ev 0 (m.wr.map zM) (ds.drop m.rs.length) (m.base.co,m.base.mem)).1 a b=true:=hb;obtain⟨_,b2,_⟩:=zcB (init:=init) (Ps:=Ps);rcases (hbits a b).1 hb with ⟨l,l1,l2,l3⟩ | ⟨_,l2⟩
  ·rw [QI] at l1;have hwg:m.wr[l]?=some m.wr[l]:=gE l1;have e:chR (m.wr.map zM) (ds.drop m.rs.length) l=o l:=by
    unfold chR;have h1:=(hf (m.rs.length+l)).2 l _ rfl hwg;rw [gDe,gDe,KR,hwg,gDe,Ku,hda _ (by omega)];show ((zM m.wr[l])[f (m.rs.length+l)]?).getD []=_;rw [h1];rfl
   rw [e] at l2 l3;exact⟨l,(hwl l _ hwg).1,l2,l3⟩
  ·rw [h.base,b2] at l2;exact Gj l2 (zcj _ a b)
end
def zuF (μ:Nat->UInt8) (es:List Ev):Nat->UInt8:=es.foldl (fun μ e=>if e.k=2 then upd μ e.l.toNat e.v else μ) μ
def zny (μ:Nat->UInt8) (es:List Ev):Prop:=∀ A e B,es=A++e::B->e.k=1->e.v=zuF μ A e.l.toNat
theorem cons_cons {μ:Nat->UInt8} {e:Ev} {es:List Ev}:zny μ (e::es)↔(e.k=1->e.v=μ e.l.toNat)/\zny (if e.k=2 then upd μ e.l.toNat e.v else μ) es:=by
 constructor
 ·intro h;exact⟨fun hk=>h [] e es rfl hk,fun A d B hd hk=>h (e::A) d B (by rw [hd];rfl) hk⟩
 ·rintro⟨h1,h2⟩ A d B hd hk
  cases A with
  | nil =>
   rw [QO,QG] at hd;obtain⟨rfl,rfl⟩:=hd;exact h1 hk
  | cons a A =>
   rw [Qi,QG] at hd;obtain⟨rfl,hd⟩:=hd;exact h2 A d B hd hk
theorem zpg {k:Nat} {R:RunD} (h:RunW k R) (hm:R.many<=24) {a b:Nat} (hp:(a,b)∈(j4 R).rmw):b=a+1:=by
 obtain⟨i,hi,h2⟩:=List.mem_flatMap.1 (show (a,b)∈zcc R.att R.many from hp);obtain⟨c,hc,he⟩:=UF.1 h2
 cases he
 rcases h.att b (Uj.1 hi) with h3 | ⟨d,h3,h4,_⟩
 ·rw [h3,zah] at hc;cases hc
 ·rw [h4] at hc;have h5:=(qM.1 hc).2;rw [Km] at h5;have:=dT h5;omega
theorem ziC:∀ (Ps:List PathD) (b i j:Nat),(∀ P∈Ps,∀ q∈P.rmw,q.2=q.1+1)->zc1 PathD.rmw b Ps i j->j=i+1
 | [],b,i,j,_,h=>h.elim
 | P::Ps,b,i,j,hP,h=>by
  rcases h with ⟨q,hq,h1,h2⟩ | h
  ·have:=hP P Kx q hq;omega
  ·exact ziC Ps _ i j (fun Q hQ=>hP Q (JW _ hQ)) h
theorem zsg {p:Prg} {V:List UInt8} {took:List PathD} {m:MixD} (hO:OkG p) (hC:ChoiceW p.init took m) (t1:took.length=p.threads.length) (t2:∀ (t:Nat) (l:List InsD),p.threads[t]?=some l->∃ R∈qA l V,took[t]?=some (j4 R)) {a b:Nat} (hb:zh m.base.rm a b=true):b=a+1:=by
 obtain⟨_,_,d3⟩:=zdT hC.P;rw [hC.base,d3] at hb;refine ziC took _ a b (fun P hP q hq=>?_) hb;obtain⟨t,ht⟩:=List.mem_iff_getElem?.1 hP;have htl:t<p.threads.length:=by rw [<- t1];exact (Jr.1 ht).1
 obtain⟨R,hR,h⟩:=t2 t _ (gE htl);rw [ht] at h;rw [Ua h] at hq;have hle:=hO.tl _ (gM htl);obtain⟨w1,w2⟩:=zp3 hle V R hR;exact zpg w1 w2 hq
theorem zhA {p:Prg} {V:List UInt8} (hO:OkG p) {x:ExD} (hx:x∈jd p V):∃ (took:List PathD) (m:MixD),ChoiceW p.init took m/\m∈qi p V/\x∈qN m/\took.length=p.threads.length/\∀ (t:Nat) (l:List InsD),p.threads[t]?=some l->∃ R∈qA l V,took[t]?=some (j4 R):=by
 obtain⟨m,hm,hx⟩:=List.mem_flatMap.1 hx;obtain⟨ds,hds,hmd⟩:=List.mem_filterMap.1 hm;obtain⟨hC,hdl,hth⟩:=ziF hO hds hmd;refine⟨_,m,hC,hm,hx,?_,fun t l hg=>?_⟩
 ·rw [(zi7 (p.threads.map (zH V)) ds (by rw [QI];exact hdl) (za1 hds).2).1,QI]
 ·obtain⟨d,_,R,d2,d3,_⟩:=hth t l hg;exact⟨R,JY d2,d3⟩
theorem zfR {m:MixD} {x:ExD} (h:x∈qN m):jv m 1≠0/\∃ ds∈qa (zL m),x=zw m ds:=by
 unfold qN at h
 split at h
 ·cases h
 ·rename_i h1;obtain⟨ds,hd,rfl⟩:=UF.1 h;exact⟨h1,ds,hd,rfl⟩
structure CandI (p:Prg) (x:ExD):Prop where
 ok:XOk x
 ini:qG x.ev=p.init.length
 l0:∀ i,i<qG x.ev->(evA x i).k=2/\(evA x i).l.toNat=i
 loc:∀ i,i<x.ev.length->isW x i=true->(evA x i).l.toNat<qG x.ev
 rm:∀ a b,zh x.rm a b=true->b=a+1
theorem znp {p:Prg} {V:List UInt8} (hO:OkG p) {x:ExD} (hx:x∈jd p V):CandI p x:=by
 obtain⟨took,m,hC,hm,hx,t1,t2⟩:=zhA hO hx;obtain⟨h1,ds,hd,rfl⟩:=zfR hx;have hr:=hC.right hd;have hrl:=hC.rels hd;have hX:XOk (zw m ds):=zoG ⟨hrl.po.w,hrl.rf.w,hrl.co.w,hrl.dt.w,hrl.ct.w,hrl.rm.w⟩ hr;have hin:qG (zw m ds).ev=p.init.length:=hC.inits;refine⟨hX,hin,fun i hi=>?_,fun i hi hw=>?_,fun a b hb=>zsg hO hC t1 t2 hb⟩
 ·rw [hin] at hi;have h6:=hC.i6;have e:evA (zw m ds) i=⟨-1,2,UInt8.ofNat i,p.init[i],0,0,0⟩:=hC.ini hi;rw [e];exact⟨rfl,by show (UInt8.ofNat i).toNat=i;rw [KF];omega⟩
 ·rw [hin];refine zcC hC.i6 hC.P ?_ (.inr (dT hw));have:evA (zw m ds) i∈m.base.ev:=by
   unfold evA;rw [gDe,gE hi];exact gM hi
  rw [<- hC.base];exact this
end Go.Proofs.YtkpaomeeknegpaaGreatDoor
namespace Go.Vc
open Go.RowKit
end Go.Vc
namespace Go.Proofs.YtkpaomeeknegpaaGreatDoor
open Go.Vc Go.RowKit Go.Sei
theorem zpO {p:Prg} {V:List UInt8} {most:Nat} (hO:OkG p) (hc:zdx p V most) (hm:most<=20000) {x:ExD} (hx:x∈jd p V) {w:Wd} {q:OA} (he:SlR evE w q x.ev):ExW w x q/\jb x=true:=by
 have hg:=zmj hO hc hm hx;have hI:=(znp hO hx).ok;obtain⟨took,m,hC,_,hx2,_⟩:=zhA hO hx;obtain⟨_,ds,hd,rfl⟩:=zfR hx2;exact⟨⟨he,hg.n,fun l=>by have:=hg.w8 l;omega,hI.po.w,hI.rf.w,hI.co.w,hI.dt.w,hI.ct.w,hI.rm.w⟩,hC.right hd⟩
end Go.Proofs.YtkpaomeeknegpaaGreatDoor
