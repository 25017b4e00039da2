/- Contracts of functions, and plain facts, for the law that the last text of this claim proves. -/
import Derived.Test.YtakcdebpklffiaaGreatDoorQ4
import Derived.Test.YtakcdebpklffiaaGreatDoorQ5
import Derived.Test.YtakcdebpklffiaaGreatDoorQ2
import Derived.Test.YtakcdebpklffiaaGreatDoorQ3
set_option linter.unusedSimpArgs false
set_option linter.unusedVariables false
namespace Go.Proofs.YtakcdebpklffiaaGreatDoor
open Go.Vc Go.RowKit Go.Sei
theorem zgB{a b:RelD}{f:Nat->Nat}(h:a.n=b.n->okR a=true->okR b=true->∀i,i<48->f i<2^64):zG (zc5 a b f).1.to:=by
 unfold zc5
 split
 ·rename_i c;rw[bAT,bAT,dE] at c;exact zc2 fun i _ d=>h c.1 c.2.1 c.2.2 i d
 ·exact fun i _=>(by show 0<2^64;decide)
theorem zmd{a b:RelD}(ha:zG a.to)(hb:zG b.to):zG (zco a b).1.to:=zgB fun _ _ _ i c=>KR (ha i c) (hb i c)
theorem zo8{a b:RelD}(ha:zG a.to):zG (zaL a b).1.to:=zgB fun _ _ _ i c=>Kz QN (ha i c)
theorem zcp{a b:RelD}(ha:zG a.to)(hb:zG b.to):zG (q9 a b).1.to:=zgB fun _ h _ i d=>by
 unfold zeI;exact zjn hb _ _ (by decide) fun j c=>(zh1 h ha d j c).2
theorem zcS(k:Nat)(p:Nat->Bool):zff (k+1) p=if p k=true then zff k p|||2^k else zff k p:=by
 unfold zff;rw[QL,KL];rfl
theorem zdN(p:Nat->Bool):∀k,k<=64->zff k p<2^64
 | 0,_=>by show 0<_;decide
 | k+1,h=>by
  rw[zcS]
  split
  ·exact KR (zdN p k (by omega)) (zT (by omega))
  ·exact zdN p k (by omega)
theorem zdU{n:Nat}{p:Nat->Nat->Bool}(hn:n<=64):zG (za9 n p).to:=zc2 fun i _ _=>zdN _ n hn
theorem zmt{X:Wd}{L:Nat}{r:RelD}(h:zQ X L r):∀i,i<48->X.cell? ⟨L,0+1+i*1,none⟩=some (s64 (r.to i)):=by
 have a:RelAt X L 0 76 [] [] r:=⟨rfl,by simpa using h⟩;exact fun i b=>a.cell b
theorem zq2{s b:Nat}:decide ((((s/2^b&&&1:Nat):Nat):Int)=1)=s.testBit b:=by
 rw[zir]
 cases s.testBit b <;> rfl
def jd (n:Nat) (p:Nat->Nat->Bool) (a k:Nat):Nat->Nat:=fun i=>if i<a then zff n (p i) else if i=a then zff k (p a) else 0
theorem ziO(n:Nat)(p:Nat->Nat->Bool)(a k:Nat):jd n p a k a=zff k (p a):=by
 unfold jd;rw[Gc (by omega),Gd rfl]
theorem zmq{n:Nat}{p:Nat->Nat->Bool}{a k:Nat}(h:p a k=true):upd (jd n p a k) a (jd n p a k a|||2^k)=jd n p a (k+1):=by
 funext i;by_cases b:i=a
 ·subst b;rw[qM,ziO,ziO,zcS,Gd h]
 ·rw[zak _ _ b];unfold jd;rw[Gc b,Gc b]
theorem zkl{n:Nat}{p:Nat->Nat->Bool}{a k:Nat}(h:p a k=false):jd n p a k=jd n p a (k+1):=by
 have e:zff (k+1) (p a)=zff k (p a):=by rw[zcS,Gc (by rw[h];decide)]
 funext i;unfold jd;rw[e]
theorem zkm(n:Nat)(p:Nat->Nat->Bool)(a:Nat):jd n p a n=jd n p (a+1) 0:=by
 funext i;unfold jd;by_cases b:i<a
 ·rw[Gd b,Gd (by omega)]
 ·by_cases c:i=a
  ·subst c;rw[Gc b,Gd rfl,Gd (by omega)]
  ·rw[Gc b,Gc c,Gc (by omega)]
   split
   ·rfl
   ·rfl
theorem zkk(n:Nat)(p:Nat->Nat->Bool):jd n p 0 0=fun _=>0:=by
 funext i;unfold jd;rw[Gc (by omega)]
 split <;> rfl
theorem zmr(n:Nat)(p:Nat->Nat->Bool):jd n p n 0=(za9 n p).to:=by
 funext i;unfold jd za9 jW;show _=if i<n then _ else 0
 by_cases h:i<n
 ·rw[Gd h,Gd h]
 ·rw[Gc h,Gc h]
  split <;> rfl
theorem zmp{n:Nat}{p:Nat->Nat->Bool}{a k:Nat}(hn:n<=64)(hk:k<=64):zG (jd n p a k):=fun i _=>by
 unfold jd
 split
 ·exact zdN _ n hn
 ·split
  ·exact zdN _ k hk
  ·decide
section
variable{w:Wd}
theorem zO{b o a d:Nat}{r:RelD}(hc:∀i,i<48->w.cell? ⟨b,o+1+i*1,none⟩=some (s64 (r.to i)))(hr:zG r.to)(ha:a<48)(hd:d<48) :
  Calls PG 157 #[.pointer (some ⟨b,o,none⟩),i64 (a:Nat),i64 (d:Nat)] w fun e w'=>e = .returned (.bool (zl r a d))/\w=w':=by
 refine zC 17 [.pointer (some ⟨b,o,none⟩),i64 (a:Nat),i64 (d:Nat)] Tryz.func157 ?_;exact⟨a,rfl,ha,_,hc a ha,by omega,_,zfl (a:=r.to a) (k:=d) (by omega),_,jo (a:=r.to a/2^d) (b:=1) (Kz (Nat.div_le_self _ _) (hr a ha)) (by decide),rb zq2,rfl⟩
theorem zen{e:Ev}:Calls PG 206 #[.agg (evE.enc e).toArray] w fun r w'=>r = .returned (.bool (decide (e.k=1)||decide (e.k=2)))/\Bw w w':=by
 refine zC 11 [.agg (evE.enc e).toArray] Tryz.func206 ?_;have f:=zw w (.cells (evE.enc e).toArray 80);have a:Bw w (w.alloc (.cells (evE.enc e).toArray 80)):=zba w _;refine⟨u8 e.k,zc (za f) (i:=1) rfl,biE (fun h=>?_) fun h=>?_⟩
 ·have h:e.k=1:=qm.1 (dT h);exact⟨rb (by rw[Uh h];rfl),a⟩
 ·have h:¬e.k=1:=fun b=>(dF h) (by rw[b];rfl);refine⟨u8 e.k,zc (za f) (i:=1) rfl,rb ?_,a⟩;rw[QX h,Uk];exact Qw.2 (qm (x:=e.k) (y:=2))
theorem zks{n g:Nat}{caps:Array Value}{p:Nat->Nat->Bool}(hn:n<=48)(hok:jh (sg 0) g=true)
  (hp:∀a d X,a<n->d<n->Bw w X->Calls PG g (i64 (a:Nat)::i64 (d:Nat)::caps.toList).toArray X fun e Y=>e = .returned (.bool (p a d))/\Bw X Y) :
  CB 155 #[i64 n,.func (.func g) #[] caps] w (.agg (zd (za9 n p)).toArray):=by
 refine qg 34 [i64 n,.func (.func g) #[] caps] (.c .p (.c .p (.c .p .p))) Tryz.func155 ?_;obtain⟨L,hL⟩:=nm (w.heap.size);refine⟨Unit,fun _=>⟨[(0,i64 n),(1,.func (.func g) #[] caps),(4,At0 L)],[]⟩,fun _ X=>zQ X L zz/\X.heap.size=L+1/\Bw w X,?_,?_⟩
 ·exact⟨(),⟨.cons rfl (.cons rfl (.cons (by rw[hL];rfl) .nil)),rfl⟩,by rw[hL];exact zw w _,by rw[hL];exact wz _ _,(zba w _)⟩
 rintro _ X ⟨i,sX,aa⟩;refine⟨Unit,fun _=>⟨[(0,i64 n),(1,.func (.func g) #[] caps),(4,At0 L),(5,At0 (L+1))],[]⟩,fun _ Y=>zQ Y (L+1) ⟨n,jd n p 0 0⟩/\Y.heap.size=L+2/\Bw X Y,?_,?_⟩
 ·refine⟨zd ⟨n,fun _=>0⟩,by kernel_rfl,?_⟩;refine zr (X:=X) (v := .agg (zd ⟨n,fun _=>0⟩).toArray) k76 (ze _) (by kernel_rfl) (zD _) fun Z j fZ sZ=>?_;rw[sX] at fZ sZ;exact⟨(),⟨.cons rfl (.cons rfl (.cons rfl (.cons (by rw[<- sX];rfl) .nil))),rfl⟩,by rw[zkk];exact fZ,sZ,j⟩
 rintro _ Y ⟨f,sY,x⟩;have u:=zst aa x;have i:=zb x i;refine⟨Unit,fun _=>⟨[(4,At0 L),(5,At0 (L+1))],[]⟩,fun _ Z=>zQ Z (L+1) (za9 n p)/\zQ Z L zz/\Bw w Z,?_,?_⟩
 ·refine⟨Nat,fun a=>⟨[(0,i64 n),(1,.func (.func g) #[] caps),(4,At0 L),(5,At0 (L+1)),(10,i64 n),(11,i64 (a:Nat))],[]⟩,fun a Z=>a<=n/\zQ Z (L+1) ⟨n,jd n p a 0⟩/\zQ Z L zz/\Bw w Z,fun a=>n-a,0,
   (cvE rfl rfl),⟨UP _,f,i,u⟩,?_⟩
  rintro a Z ⟨ha,f,i,j⟩;dsimp only at f ⊢;refine biE (fun k=>?_) fun k=>?_
  ·have k:(a:Int)<(n:Int):=dT k;have t:a<n:=by omega
   refine⟨Nat,fun d=>⟨[(0,i64 n),(1,.func (.func g) #[] caps),(4,At0 L),(5,At0 (L+1)),(6,i64 (a:Nat)),(10,i64 n),(11,i64 (a:Nat)),(14,i64 n),(15,i64 (d:Nat))],[]⟩,fun d V=>d<=n/\zQ V (L+1) ⟨n,jd n p a d⟩/\zQ V L zz/\Bw w V,fun d=>n-d,0,
    (cvE rfl rfl),⟨UP _,f,i,j⟩,?_⟩
   clear f i j;rintro d V ⟨hd,f,i,m⟩;dsimp only at f ⊢;refine biE (fun k=>?_) fun k=>?_
   ·have k:(d:Int)<(n:Int):=dT k;have q:d<n:=(by omega);refine zgD hok (hp a d V t q m) ?_;rintro e U ⟨rfl,r⟩;refine⟨_,rfl,?_⟩;have f:=zb r f;have i:=zb r i;have l:=zst m r;have sU:=l.size;refine biE (fun h=>?_) fun h=>?_
    ·have h:p a d=true:=h;have y:RelAt U (L+1) 0 76 [] [] ⟨n,jd n p a d⟩:=⟨rfl,by simpa using f⟩;have dU:Bw U U.drew:=(UR _ _).drew;have b:a<48:=(by omega);refine DrawE.ord [9] [0,1,2,3,4,5,6,7,8,9] (by kernel_rfl) ⟨a,rfl,b,s64 (jd n p a d a),(y.same (Y:=U.drew) rfl).cell b,by omega,_,jn (e:=d) (by omega),_,jB (zmp (by omega) (by omega) a b) (zT (by omega)),a,rfl,b,zn k73 (y.same (Y:=U.drew) rfl).cells (o:=0+1+a*1) (v:=s64 (jd n p a d a|||2^d)) rfl rfl (by rw[y.len];omega) rfl fun S z gS sS=>?_⟩;rw[y.set b] at z;have e5:upd (jd n p a d) a (jd n p a d a|||2^d)=jd n p a (d+1):=zmq h;dsimp only at z;rw[e5] at z;have s:U.grownBy S (some (L+1)):=zf (zi dU) gS;exact nxI (by omega) ⟨d+1,(cvE rfl rfl),⟨q,by simpa using z,(s.block L (hlt i) (by simp)).trans i,l.trans (zm s sU (by omega))⟩,zdc (by omega)⟩
    ·have h:p a d=false:=h;exact nxI (by omega) ⟨d+1,(cvE rfl rfl),⟨q,by rw[<- zkl h];exact f,i,l⟩,zdc (by omega)⟩
   ·have k:¬(d:Int)<(n:Int):=dF k;obtain rfl:d=n:=(by omega);exact nxI (by omega) ⟨a+1,(cvE rfl rfl),⟨t,by rw[<- zkm];exact f,i,m⟩,zdc (by omega)⟩
  ·have k:¬(a:Int)<(n:Int):=dF k;obtain rfl:a=n:=by omega
   rw[zmr] at f;exact⟨(),(cvE rfl rfl),f,i,j⟩
 rintro _ Z ⟨f,i,j⟩;exact⟨zd (za9 n p),ze _,za f,hlt f,zo (v := .agg (zd (za9 n p)).toArray) k76 i (ze _) (ze _) (zD _) ⟨zd (za9 n p),ze _,za (zk i),rfl,zh j (by omega) _⟩⟩
def zrL:Enc RelD:=⟨zd,49,ze,by decide,fun a u hu=>Qa.1 (zD a) u hu⟩
theorem zb1{l:List RelD}:∀{r:RelD},zG r.to->(∀o∈l,zG o.to)->zG (qj r l).to:=by
 induction l with
 | nil=>exact fun h _=>h
 | cons o l ih=>exact fun h a=>ih (zmd h (a o Ku)) fun x b=>a x (JR _ b)
theorem zhI{r:RelD}{l:List RelD}{pm:OA}{cm:Nat}(hr:zG r.to)(hl:SlR zrL w pm l)(hw:∀o∈l,zG o.to)(hn:l.length<=1000) :
  CB 160 #[.agg (zd r).toArray,.slice pm l.length cm] w (.agg (zd (qj r l)).toArray):=by
 refine qg 21 [.agg (zd r).toArray,.slice pm l.length cm] (.c .p (.c .p .p)) Tryz.func160 ?_;obtain⟨L,s⟩:=nm (w.heap.size);refine⟨Unit,fun _=>⟨[(1,.slice pm l.length cm),(2,At0 L),(4,At0 (L+1))],[]⟩,fun _ X=>zQ X L r/\zQ X (L+1) zz/\Bw w X,?_,?_⟩
 ·have s1:=wz w (.cells (zd r).toArray 76);have h2:=zw (w.alloc (.cells (zd r).toArray 76)) (.cells (zd zz).toArray 76);rw[s1] at h2;refine⟨(),⟨.cons rfl (.cons (by rw[s];rfl) (.cons (by rw[s,<- s1];rfl) .nil)),rfl⟩,by rw[s];exact z6 _ (zw w _),by rw[s];exact h2,((zba w _)).alloc (by simp) _⟩
 rintro _ X ⟨a,g,j⟩;refine⟨Unit,fun _=>⟨[(2,At0 L),(4,At0 (L+1))],[]⟩,fun _ Z=>zQ Z L (qj r l)/\zQ Z (L+1) zz/\Bw w Z,?_,?_⟩
 ·refine⟨Nat,fun k=>⟨[(2,At0 L),(4,At0 (L+1)),(7,.slice pm l.length cm),(8,i64 l.length),(9,i64 (k:Nat))],[]⟩,fun k Z=>k<=l.length/\zQ Z L (qj r (l.take k))/\zQ Z (L+1) zz/\Bw w Z,fun k=>l.length-k,0,
   (cvE rfl rfl),⟨UP _,a,g,j⟩,?_⟩
  clear a g j;rintro k Z ⟨hk,a,g,f⟩;dsimp only;have m:=f.size;refine biE (fun q=>?_) fun q=>?_
  ·have q:(k:Int)<(l.length:Int):=dT q;have d:k<l.length:=by omega
   obtain⟨b,o,rfl,hb,z⟩:=hl.at d;obtain⟨t,x⟩:∃t,l[k]=t:=⟨_,rfl⟩;have y:t∈l:=by rw[<- x];exact gM d
   have ab:qj r (l.take (k+1))=(zco (qj r (l.take k)) t).1:=by
    unfold qj;rw[tsg d,x,KL];rfl
   have aa:zG (qj r (l.take k)).to:=zb1 hr fun o ho=>hw o (JT ho);refine⟨k,rfl,d,zd t,ze _,by rw[<- x];exact zt f (z k d),nL hb m,zr (X:=Z) (v := .agg (zd t).toArray) k76 (ze _) (by kernel_rfl) (zD _) fun Y h u sY=>?_⟩;have u:zQ Y Z.heap.size t:=u;have a:=zb h a;have g:=zb h g;refine⟨zd (qj r (l.take k)),ze _,za a,hlt a,zd t,ze _,za u,hlt u,cmo (zq8 aa (hw t y)) ?_⟩;rintro e V ⟨rfl,i⟩;have a:=zb i a;have g:=zb i g;refine zo (v := .agg (zd (zco (qj r (l.take k)) t).1).toArray) k76 a (ze _) (ze _) (zD _) (nxI (by omega) ?_);have n:=(f.trans (h.mono m)).trans (i.mono (by have:=h.size;omega));exact⟨k+1,(cvE rfl rfl),⟨d,by rw[ab];exact zk a,(zq (by omega)).trans g,zh n (by omega) _⟩,zdc (by omega)⟩
  ·have q:¬(k:Int)<(l.length:Int):=dF q;obtain rfl:k=l.length:=by omega
   rw[Qn] at a;exact⟨(),(cvE rfl rfl),a,g,f⟩
 rintro _ Z ⟨a,g,f⟩;exact⟨zd (qj r l),ze _,za a,hlt a,zo (v := .agg (zd (qj r l)).toArray) k76 g (ze _) (ze _) (zD _) ⟨zd (qj r l),ze _,za (zk g),rfl,zh f (by omega) _⟩⟩
end
section
variable{w:Wd}{b c:Nat}{x:ExD}{q:OA}
theorem zeM{X:Wd}{o:Nat}{r:RelD}(fx:zF X ⟨b,0,none⟩ (exC x q c))(h:∃A T,A.length=o/\exC x q c=A++(zd r++T)):∀i,i<48->X.cell? ⟨b,o+1+i*1,none⟩=some (s64 (r.to i)):=by
 intro i d;obtain⟨A,T,e,g⟩:=h;have:(exC x q c)[o+1+i*1]?=some (s64 (r.to i)):=by
  rw[g,UO,Us,qH e,Jn (by rw[ze];omega),zdS r d]
 have a:=zc fx this;rw[UH] at a;exact a
theorem zoN(x:ExD)(q:OA)(c:Nat):∃A T,A.length=1/\exC x q c=A++(zd x.po++T):=by
 obtain⟨A,T,d,a⟩:=zlM x q c [];exact⟨A,T,d,by rw[<- a,QA]⟩
theorem zr8(x:ExD)(q:OA)(c:Nat):∃A T,A.length=148/\exC x q c=A++(zd x.dt++T):=by
 obtain⟨A,T,d,a⟩:=zlN x q c [];exact⟨A,T,d,by rw[<- a,QA]⟩
theorem zr9(x:ExD)(q:OA)(c:Nat):∃A T,A.length=197/\exC x q c=A++(zd x.ct++T):=by
 obtain⟨A,T,d,a⟩:=zlO x q c [];exact⟨A,T,d,by rw[<- a,QA]⟩
theorem zoM(x:ExD)(q:OA)(c:Nat):∃A T,A.length=246/\exC x q c=A++(zd x.rm++T):=by
 obtain⟨A,T,d,a⟩:=zlL x q c [];exact⟨A,T,d,by rw[<- a,QA]⟩
theorem ziv(x:ExD)(i:Nat):(decide ((evA x i).k=1)||decide ((evA x i).k=2))=zcf x i:=rfl
theorem zbE{X:Wd}(hv:SlR evE X q x.ev){a:Nat}(ha:a<x.ev.length):∃bq oq,q=some ⟨bq,oq,none⟩/\bq<X.heap.size/\zF X ⟨bq,oq+a*7,none⟩ (evE.enc (evA x a)):=zbF hv ha
theorem znO{a d:Nat}(fx:zF w ⟨b,0,none⟩ (exC x q c))(hv:SlR evE w q x.ev)(ha:a<x.ev.length)(hd:d<x.ev.length) :
  CB 158 #[At0 b,i64 (a:Nat),i64 (d:Nat)] w (.bool (za4 x a d)):=by
 refine qg 44 [At0 b,i64 (a:Nat),i64 (d:Nat)] (.c .p .p) Tryz.func158 ?_;refine⟨Unit,fun _=>⟨[(0,At0 b),(1,i64 (a:Nat)),(2,i64 (d:Nat))],[]⟩,fun _ X=>w=X,⟨(),(cvE rfl rfl),rfl⟩,?_⟩;rintro _ _ rfl;obtain⟨bq,oq,o,z,t⟩:=zbE hv ha;obtain⟨aa,ac,g,ab,h⟩:=zbE hv hd;rw[o] at g;simp only[KS,Uj,UX] at g;rw[<- g.1,<- g.2] at h;subst o;have y:Bw w w.drew:=(UR _ _).drew;refine DrawE.ord [] [0,1,2,3,4,5,6,7,8,9,10,11,12,13,14,15,16,17,18,19,20,21,22,23,24,25,26,27,28,29,30,31,32,33,34,35,36,37] (by kernel_rfl) ⟨_,j8 (zt y fx),a,rfl,ha,evE.enc (evA x a),rfl,zt y t,nL z y.size,cmo zen ?_⟩;rintro e X ⟨rfl,n⟩;refine⟨n,?_⟩;have r:=y.trans n;rw[ziv];refine biE (fun j=>?_) fun j=>?_
 ·have j:zcf x a=true:=j;refine⟨_,j8 (zt r fx),d,rfl,hd,evE.enc (evA x d),rfl,zt r h,nL z r.size,cmo zen ?_⟩;rintro e Y ⟨rfl,u⟩;refine⟨u,?_⟩;have m:=zst r u;rw[ziv];refine biE (fun k=>?_) fun k=>?_
  ·have k:zcf x d=true:=k;refine⟨_,j8 (zt m fx),a,rfl,ha,u8 (evA x a).l,by have:=zc (zt m t) (i:=2) (v:=u8 (evA x a).l) rfl;exact this,_,j8 (zt m fx),d,rfl,hd,u8 (evA x d).l,by have:=zc (zt m h) (i:=2) (v:=u8 (evA x d).l) rfl;exact this,rb ?_,m⟩;unfold za4;rw[j,k,Un,Un];exact Qw.2 qm
  ·have k:zcf x d=false:=k;refine⟨rb ?_,m⟩;unfold za4;rw[j,k];rfl
 ·have j:zcf x a=false:=j;refine brF ⟨rb ?_,r⟩;unfold za4;rw[j];rfl
end
structure ScnV (X:Wd) (b:Nat) (x:ExD) (q:OA) (c:Nat) (f l s:RelD):Prop where
 h:X.heap[b]?=some (.cells (exC x q c++(zd f++(zd l++zd s))).toArray 311 (0,0))
 v:ExW X x q
 wf:zG f.to
 wl:zG l.to
 ws:zG s.to
section
variable{w:Wd}{b c:Nat}{x:ExD}{q:OA}{f l s:RelD}
theorem ScnV.below{X Y:Wd}(h:ScnV X b x q c f l s)(hb:Bw X Y):ScnV Y b x q c f l s:=⟨zb hb h.h,h.v.below hb,h.wf,h.wl,h.ws⟩
theorem ScnV.cells{X:Wd}(h:ScnV X b x q c f l s):zF X ⟨b,0,none⟩ (exC x q c):=by
 have:=zI (n:=0) (m:=333) (za h.h);have e:((exC x q c++(zd f++(zd l++zd s))).toArray.toList.drop 0).take 333=exC x q c:=by
  show(exC x q c++_).take 333=_;rw[Je (by rw[zM];decide),JB (by rw[zM];decide)]
 rw[e] at this;exact this
theorem ScnV.at{X:Wd}{o:Nat}{r:RelD}(h:ScnV X b x q c f l s)(hr:∃A T,A.length=o/\exC x q c++(zd f++(zd l++zd s))=A++(zd r++T)):∀i,i<48->X.cell? ⟨b,o+1+i*1,none⟩=some (s64 (r.to i)):=by
 intro i d;obtain⟨A,T,e,g⟩:=hr;have:(exC x q c++(zd f++(zd l++zd s)))[o+1+i*1]?=some (s64 (r.to i)):=by
  rw[g,UO,Us,qH e,Jn (by rw[ze];omega),zdS r d]
 have a:=zc (za h.h) this;rw[UH] at a;exact a
theorem ScnV.full{X:Wd}(h:ScnV X b x q c f l s):∀i,i<48->X.cell? ⟨b,0+333+1+i*1,none⟩=some (s64 (f.to i)):=h.at ⟨exC x q c,zd l++zd s,zM _ _ _,rfl⟩
theorem ScnV.loads{X:Wd}(h:ScnV X b x q c f l s):∀i,i<48->X.cell? ⟨b,0+382+1+i*1,none⟩=some (s64 (l.to i)):=h.at ⟨exC x q c++zd f,zd s,by rw[lap,zM,ze],by rw[KH]⟩
theorem ScnV.stores{X:Wd}(h:ScnV X b x q c f l s):∀i,i<48->X.cell? ⟨b,0+431+1+i*1,none⟩=some (s64 (s.to i)):=h.at ⟨exC x q c++(zd f++zd l),[],by rw[lap,lap,zM,ze,ze],by simp only[KH,QA]⟩
theorem zdm{a:Nat}(h:ScnV w b x q c f l s)(ha:a<x.ev.length):Calls PG 285 #[At0 b,i64 (a:Nat)] w fun e w'=>e = .returned (.bool (isR x a))/\w=w':=by
 refine zC 15 [At0 b,i64 (a:Nat)] Tryz.func285 ?_;obtain⟨m,o,d,n,g⟩:=zbE h.v.ev ha;have j:=h.cells;subst d;exact⟨_,j8 j,a,rfl,ha,u8 (evA x a).k,by have:=zc g (i:=1) (v:=u8 (evA x a).k) rfl;exact this,rb (Qw.2 (qm (x:=(evA x a).k) (y:=1))),rfl⟩
theorem qW{a:Nat}(h:ScnV w b x q c f l s)(ha:a<x.ev.length):Calls PG 286 #[At0 b,i64 (a:Nat)] w fun e w'=>e = .returned (.bool (isW x a))/\w=w':=by
 refine zC 15 [At0 b,i64 (a:Nat)] Tryz.func286 ?_;obtain⟨m,o,d,n,g⟩:=zbE h.v.ev ha;have j:=h.cells;subst d;exact⟨_,j8 j,a,rfl,ha,u8 (evA x a).k,by have:=zc g (i:=1) (v:=u8 (evA x a).k) rfl;exact this,rb (Qw.2 (qm (x:=(evA x a).k) (y:=2))),rfl⟩
theorem zcq{a:Nat}{md:UInt8}(h:ScnV w b x q c f l s)(ha:a<x.ev.length):Calls PG 290 #[At0 b,i64 (a:Nat),u8 md] w fun e w'=>e = .returned (.bool (zP x a md))/\w=w':=by
 refine zC 30 [At0 b,i64 (a:Nat),u8 md] Tryz.func290 ?_;obtain⟨o,p,j,n,g⟩:=zbE h.v.ev ha;have k:=h.cells;subst j;refine⟨_,j8 k,a,rfl,ha,u8 (evA x a).m,by have:=zc g (i:=4) (v:=u8 (evA x a).m) rfl;exact this,biE (fun d=>?_) fun d=>?_⟩
 ·have d:(evA x a).m=md:=qm.1 (dT d);exact⟨rb (by unfold zP;rw[Uh d];rfl),rfl⟩
 ·have d:¬(evA x a).m=md:=fun e=>(dF d) (by rw[e]);exact⟨_,j8 k,a,rfl,ha,u8 (evA x a).m,by have:=zc g (i:=4) (v:=u8 (evA x a).m) rfl;exact this,rb (by unfold zP;rw[QX d,Uk];exact Qw.2 (qm (x:=(evA x a).m) (y:=3))),rfl⟩
theorem zl2{a d:Nat}(h:ScnV w b x q c f l s)(ha:a<x.ev.length)(hd:d<x.ev.length):Calls PG 287 #[At0 b,i64 (a:Nat),i64 (d:Nat)] w fun e w'=>e = .returned (.bool (jX x f a d))/\w=w':=by
 refine zC 23 [At0 b,i64 (a:Nat),i64 (d:Nat)] Tryz.func287 ?_;have j:=h.v.n;refine cmo (zO h.full h.wf (by omega) (by omega)) ?_;rintro e _ ⟨rfl,rfl⟩;refine biE (fun g=>?_) fun g=>?_
 ·have g:zl f a d=true:=g;exact brT ⟨rb (by unfold jX;rw[g];rfl),rfl⟩
 have g:zl f a d=false:=g;refine cmo (zcq (md:=3) h ha) ?_;rintro e _ ⟨rfl,rfl⟩;refine biE (fun i=>?_) fun i=>?_
 ·have i:zP x a 3=true:=i;exact⟨rb (by unfold jX;rw[g,i];rfl),rfl⟩
 have i:zP x a 3=false:=i;refine cmo (zcq (md:=3) h hd) ?_;rintro e _ ⟨rfl,rfl⟩;exact⟨rb (by unfold jX;rw[g,i];rfl),rfl⟩
end
abbrev orG (l:List Nat):Nat:=l.foldl (fun s i=>s|||2^i) 0
theorem zoa(l:List Nat)(i:Nat):orG (l++[i])=orG l|||2^i:=by
 unfold orG;rw[KL];rfl
theorem zlw:∀(l:List Nat) (s:Nat),s<2^64->(∀i∈l,i<64)->l.foldl (fun s i=>s|||2^i) s<2^64
 | [],s,h,_=>h
 | i::l,s,h,hl=>zlw l (s|||2^i) (KR h (zT (hl i Ku))) fun j a=>hl j (JR _ a)
theorem zob{l:List Nat}(hl:∀i∈l,i<64):orG l<2^64:=zlw l 0 (by decide) hl
section
variable{w:Wd}
theorem ztT{p:OA}{cp:Nat}{l:List Nat}(hl:SlR zB w p l)(h64:∀i∈l,i<64)(hn:l.length<=1000):Calls PG 280 #[.slice p l.length cp] w fun e w'=>e = .returned (.tuple #[s64 (orG l),i64 0])/\w=w':=by
 refine zC 25 [.slice p l.length cp] Tryz.func280 ?_;refine⟨Nat,fun k=>⟨[(4,s64 (orG (l.take k))),(7,.slice p l.length cp),(8,i64 l.length),(9,i64 (k:Nat))],[]⟩,fun k X=>k<=l.length/\w=X,fun k=>l.length-k,0,(cvE rfl rfl),⟨UP _,rfl⟩,?_⟩;rintro k _ ⟨r,rfl⟩;dsimp only;refine biE (fun f=>?_) fun f=>?_
 ·have f:(k:Int)<(l.length:Int):=dT f;have a:k<l.length:=by omega
  obtain⟨b,o,rfl,s,g⟩:=hl.at a;obtain⟨t,j⟩:∃t,l[k]=t:=⟨_,rfl⟩;have d:=h64 t (by rw[<- j];exact gM a);have m:orG (l.take (k+1))=orG (l.take k)|||2^t:=by rw[tsg a,j,zoa]
  refine⟨k,rfl,a,i64 t,by have:=zc (g k a) (i:=0) (v:=i64 t) (by rw[j];rfl);exact this,biE (fun h=>?_) fun _=>?_⟩
  ·have h:(t:Int)<0:=dT h;omega
  refine biE (fun h=>?_) fun _=>?_
  ·have h:(64:Int)<=(t:Nat):=dT h;omega
  exact⟨by omega,_,jn (e:=t) (by omega),_,jB (zob fun i n=>h64 i (JT n)) (zT d),nxI (by omega) ⟨k+1,⟨.cons (by show _=some (s64 (orG (l.take (k+1))));rw[m];rfl) (.cons rfl (.cons rfl (.cons rfl .nil))),rfl⟩,⟨a,rfl⟩,zdc (by omega)⟩⟩
 ·have f:¬(k:Int)<(l.length:Int):=dF f;obtain rfl:k=l.length:=by omega
  rw[Qn];exact⟨rfl,rfl⟩
end
section
variable{b c:Nat}{x:ExD}{q:OA}{w:Wd}
theorem zoF(hv:ExW w x q)(hT:Tz64M w):zG (qI x.rf).to/\zG (frM x).to:=by
 have e:zG (qI x.rf).to:=by
  unfold qI
  split
  ·rename_i h;intro i k;refine Qq fun a=>?_;obtain⟨j,f,d⟩:=Nat.exists_ge_and_testBit_of_ge_two_pow a;rw[show((⟨x.rf.n,j4 x.rf.to x.rf.n.toNat⟩:RelD).to i)=j4 x.rf.to x.rf.n.toNat i from rfl,zeV,bAT,dE] at d;have g:=(qJ h).2.1;omega
  ·exact fun i _=>(by show 0<2^64;decide)
 exact⟨e,zcp e hv.co⟩
theorem ztH(fx:ExH w b x q c)(hv:ExW w x q)(hT:Tz64M w):CB 154 #[At0 b] w (.agg (zd (frM x)).toArray):=by
 refine qg 19 [At0 b] (.c .p (.c .p .p)) Tryz.func154 ?_;obtain⟨L,hL⟩:=nm (w.heap.size);obtain⟨wb,wf⟩:=zoF hv hT;refine⟨Unit,fun _=>⟨[(0,At0 b),(2,At0 L)],[]⟩,fun _ X=>zQ X L zz/\Bw w X,⟨(),⟨.cons rfl (.cons (by rw[hL];rfl) .nil),rfl⟩,by rw[hL];exact zw w _,(zba w _)⟩,?_⟩;rintro _ X ⟨f0,hbX⟩;refine⟨Nat,fun F=>⟨[(2,At0 L),(3,At0 F)],[]⟩,fun F Z=>zQ Z F (frM x)/\zQ Z L zz/\Bw w Z,?_,?_⟩
 ·have dX:Bw X X.drew:=(UR _ _).drew;have fX:=hdr (zb hbX fx);have hba:∀(A:Wd) (o:Obj),Bw A (A.alloc o):=fun A o=>(zba _ _);have put:∀(W:Wd) (b3:Nat),Bw X W->zQ W b3 zz->X.heap.size<=b3->∀{K:Wd->Prop},(∀V,(zQ V b3 (frM x)/\zQ V L zz/\Bw w V)->K V) ->
    SatR ((storeVar 76 ⟨b3,0,none⟩ (.agg (zd (frM x)).toArray)).run PG W) fun _ w'=>K w':=by
   intro W b3 hW f3 g3 K k;refine zo (v := .agg (zd (frM x)).toArray) k76 f3 (ze _) (ze _) (zD _) ?_;have hL2:=hlt f0;exact k _ ⟨zk f3,(zq (by omega)).trans (zb hW f0),zh ((zst hbX hW)) (by have:=hbX.size;omega) _⟩
  refine DrawE.treeQ [14] (.op 0 (.op 1 (.op 2 (.op 3 (.op 5 (.op 6 (.op 7 (.op 8 (.alt (.op 13 (.op 4 (.op 9 (.op 10 (.op 11 (.op 12 (.op 14 (.op 15 (.nil))))))))) (.op 4 (.alt (.op 13 (.op 9 (.op 10 (.op 11 (.op 12 (.op 14 (.op 15 (.nil)))))))) (.op 9 (.op 10 (.op 11 (.op 12 (.op 13 (.op 14 (.op 15 (.nil))))))))))))))))))) (by kernel_rfl) ⟨zd x.rf,ze _,q6 fX (i:=1) (by decide) rfl,hlt fX,zd x.co,ze _,q6 fX (i:=2) (by decide) rfl,hlt fX,UV ?_ ?_⟩
  ·refine⟨hba _ _,?_⟩;have b1:=dX.alloc (UN _) (.cells (zd zz).toArray 76);refine cmo (zgL hv.rf (hT.below ((zst hbX b1)))) ?_;rintro e Y ⟨rfl,hbY,_⟩;refine⟨hbY,?_⟩;have b2:=zst b1 hbY;refine cmo (zbH wb hv.co (hT.below ((zst hbX b2)))) ?_;rintro e Z ⟨rfl,hbZ⟩;exact⟨hbZ,put Z X.heap.size ((zst b2 hbZ)) (zb hbZ (zb hbY (zw X.drew _))) (UN _) (fun V hV=>⟨X.heap.size,(cvE rfl rfl),hV⟩)⟩
  refine cmo (zgL hv.rf (hT.below ((zst hbX dX)))) ?_;rintro e Y ⟨rfl,hbY,_⟩;refine⟨hbY,?_⟩;have b1:=zst dX hbY;refine UV ?_ ?_
  ·refine⟨hba _ _,?_⟩;have b2:=b1.alloc b1.size (.cells (zd zz).toArray 76);refine cmo (zbH wb hv.co (hT.below ((zst hbX b2)))) ?_;rintro e Z ⟨rfl,hbZ⟩;exact⟨hbZ,put Z Y.heap.size ((zst b2 hbZ)) (zb hbZ (zw Y _)) b1.size (fun V hV=>⟨Y.heap.size,(cvE rfl rfl),hV⟩)⟩
  ·refine cmo (zbH wb hv.co (hT.below ((zst hbX b1)))) ?_;rintro e Z ⟨rfl,hbZ⟩;refine⟨hbZ,?_⟩;have b2:=zst b1 hbZ;exact⟨hba _ _,put _ Z.heap.size (b2.alloc b2.size _) (zw Z _) b2.size (fun V hV=>⟨Z.heap.size,(cvE rfl rfl),hV⟩)⟩
 rintro F Z ⟨f1,f0,hbZ⟩;exact⟨zd (frM x),ze _,za f1,hlt f1,zo (v := .agg (zd (frM x)).toArray) k76 f0 (ze _) (ze _) (zD _) ⟨zd (frM x),ze _,za (zk f0),rfl,zh hbZ (by omega) _⟩⟩
end
structure RelOk (n:Nat) (r:RelD):Prop where
 n:r.n=n
 ok:okR r=true
 w:zG r.to
section
variable{n:Nat}{r a b:RelD}
theorem RelOk.le(h:RelOk n r):n<=48:=by
 have:=(qJ h.ok).2.1;have:=h.n;omega
theorem zrS(hn:r.n=n)(h48:n<=48)(h:∀i j,i<48->zl r i j=true->i<n/\j<n):okR r=true:=by
 unfold okR;rw[bAT,bAT,dE,dE,Qa];refine⟨by omega,by omega,fun i c=>?_⟩;have c:=Ue.1 c;unfold za7;rw[bAT,Qx,dE,dE,dE];refine⟨?_,?_⟩
 ·rw[zjg,zel];apply JV;intro j;rw[Qu];by_cases e:j<64
  ·rw[zeG (zaY _) e,zgG (by omega) (by omega) e]
   cases hb:(r.to i).testBit j with
   | false=>rfl
   | true =>
    have:=(h i j c hb).2;rw[Uh (by omega)];rfl
  ·have:=JC (nL (Kz (show jl (r.to i) (zaf r.n)<=_ from Qo) (show 18446744073709551615-zaf r.n<2^64 by omega)) (JY (show 0<2 by decide) (show 64<=j by omega)));exact this
 ·by_cases d:i<n
  ·exact .inl (by omega)
  ·refine .inr (JV fun j=>?_);rw[Qu]
   cases hb:(r.to i).testBit j with
   | false=>rfl
   | true=>exact Ge (h i j c hb).1 d
theorem RelOk.of(hn:r.n=n)(h48:n<=48)(h:∀i j,i<48->zl r i j=true->i<n/\j<n)(hw:zG r.to):RelOk n r:=⟨hn,zrS hn h48 h,hw⟩
theorem zhQ(p:Nat->Bool):∀k j,(zff k p).testBit j=(decide (j<k)&&p j)
 | 0,j=>by
  show(0:Nat).testBit j=_;simp
 | k+1,j=>by
  rw[zcS]
  split
  ·rename_i h;rw[Nat.testBit_or,zhQ p k j,zlp];by_cases e:j=k
   ·subst e;simp[h]
   ·rw[QX e,Um];congr 1;exact Qw.2 (by omega)
  ·rename_i h;rw[zhQ p k j];by_cases e:j=k
   ·subst e;have:p j=false:=(by simpa using h);rw[this,QY,QY]
   ·congr 1;exact Qw.2 (by omega)
theorem zm9{f:Nat->Nat}{i j:Nat}:zl (jW n f) i j=(decide (i<n)&&(f i).testBit j):=by
 unfold zl jW;dsimp only
 split
 ·rename_i h;rw[Uh h];rfl
 ·rename_i h;rw[QX h,Qu];rfl
theorem zn5{p:Nat->Nat->Bool}{i j:Nat}:zl (za9 n p) i j=(decide (i<n)&&(decide (j<n)&&p i j)):=by
 unfold za9;rw[zm9,zhQ]
theorem RelOk.pick(h:n<=48)(p:Nat->Nat->Bool):RelOk n (za9 n p):=by
 refine .of rfl h (fun i j _ c=>?_) (zdU (by omega));rw[zn5] at c;simp only[bAT,dE] at c;exact⟨c.1,c.2.1⟩
end
structure WX (x:ExD):Prop where
 po:zG x.po.to
 rf:zG x.rf.to
 co:zG x.co.to
 dt:zG x.dt.to
 ct:zG x.ct.to
 rm:zG x.rm.to
structure XOk (x:ExD):Prop where
 n:x.ev.length<=48
 po:RelOk x.ev.length x.po
 rf:RelOk x.ev.length x.rf
 co:RelOk x.ev.length x.co
 dt:RelOk x.ev.length x.dt
 ct:RelOk x.ev.length x.ct
 rm:RelOk x.ev.length x.rm
 ev:ju x.ev (zab x.ev)=true
 poE:zbN x.po (poR x.ev)=true
 rfR:zbo x=true
 coR:zbv x (zab x.ev)=true
 dep:zaK x=true
section
variable{b c:Nat}{x:ExD}{q:OA}{w:Wd}
theorem zr7{r:RelD}{a d R B:Nat}(fR:zQ w R r)(hr:zG r.to)(fB:w.heap[B]?=some (.cells #[At0 b] 134 (0,0)))(fx:ExH w b x q c)(hv:ExW w x q)(ha:a<x.ev.length)(hd:d<x.ev.length) :
  CB 214 #[i64 (a:Nat),i64 (d:Nat),At0 R,At0 B] w (.bool (zl r a d && !decide ((evA x a).th=(evA x d).th))):=by
 refine zC 29 [i64 (a:Nat),i64 (d:Nat),At0 R,At0 B] Tryz.func214 ?_;have s:=hv.n;obtain⟨t,y,j,u,l⟩:=zbE hv.ev ha;obtain⟨m,p,f,o,g⟩:=zbE hv.ev hd;rw[j] at f;simp only[KS,Uj,UX] at f;rw[<- f.1,<- f.2] at g;subst j;have k:Bw w w.drew:=(UR _ _).drew;refine DrawE.ord [] [0,1,2,3,4,5,6,7,8,9,10,11,12,13,14,15,16,17,18,19,20,21,22] (by kernel_rfl) (cmo (zO (zmt (hdr fR)) hr (by omega) (by omega)) ?_);rintro e _ ⟨rfl,rfl⟩;refine⟨UR _ _,biE (fun h=>?_) fun h=>?_⟩
 ·have h:zl r a d=true:=h;exact⟨At0 b,zc (za (hdr fB)) (i:=0) rfl,_,j8 (za (hdr fx)),a,rfl,ha,i64 (evA x a).th,by have:=zc (zt k l) (i:=0) (v:=i64 (evA x a).th) rfl;exact this,At0 b,zc (za (hdr fB)) (i:=0) rfl,_,j8 (za (hdr fx)),d,rfl,hd,i64 (evA x d).th,by have:=zc (zt k g) (i:=0) (v:=i64 (evA x d).th) rfl;exact this,rb (by rw[h,Un]),k⟩
 ·have h:zl r a d=false:=h;exact⟨rb (by rw[h,QZ]),k⟩
theorem zna{a d B:Nat}(fB:w.heap[B]?=some (.cells #[At0 b] 134 (0,0)))(fx:ExH w b x q c)(hv:ExW w x q)(ha:a<x.ev.length)(hd:d<x.ev.length) :
  CB 156 #[i64 (a:Nat),i64 (d:Nat),At0 B] w (.bool (zl x.po a d&&za4 x a d)):=by
 refine zC 18 [i64 (a:Nat),i64 (d:Nat),At0 B] Tryz.func156 ?_;have h:=hv.n;refine⟨At0 b,zc (za fB) (i:=0) rfl,cmo (zO (zeM (za fx) (zoN x q c)) hv.po (by omega) (by omega)) ?_⟩;rintro e _ ⟨rfl,rfl⟩;refine biE (fun f=>?_) fun f=>?_
 ·have f:zl x.po a d=true:=f;refine⟨At0 b,zc (za fB) (i:=0) rfl,cmo (znO (za fx) hv.ev ha hd) ?_⟩;rintro e X ⟨rfl,g⟩;exact⟨rb (by rw[f,Un]),g⟩
 ·have f:zl x.po a d=false:=f;exact⟨rb (by rw[f,QZ]),UR _ _⟩
theorem zs6{r:RelD}(fx:ExH w b x q c)(hv:ExW w x q)(hr:zG r.to)(hn:r.n=x.ev.length) :
  CB 164 #[At0 b,.agg (zd r).toArray] w (.agg (zd (zgs x r)).toArray):=by
 refine qg 9 [At0 b,.agg (zd r).toArray] (.c .p (.c .p .p)) Tryz.func164 ?_;obtain⟨L,j⟩:=nm (w.heap.size);have aa:=hv.n;refine⟨Unit,fun _=>⟨[(2,At0 L),(3,At0 (L+1)),(4,At0 (L+2))],[]⟩,fun _ X=>X.heap[L]?=some (.cells #[At0 b] 134 (0,0))/\zQ X (L+1) r/\zQ X (L+2) zz/\Bw w X,?_,?_⟩
 ·have s1:=wz w (.cells #[At0 b] 134);have o:=wz (w.alloc (.cells #[At0 b] 134)) (.cells (zd r).toArray 76);have s:Bw w (w.alloc (.cells #[At0 b] 134)):=zba w _;have y:=s.alloc s.size (.cells (zd r).toArray 76);have h1:=zw w (.cells #[At0 b] 134);have u:=zw (w.alloc (.cells #[At0 b] 134)) (.cells (zd r).toArray 76);have z:=zw ((w.alloc (.cells #[At0 b] 134)).alloc (.cells (zd r).toArray 76)) (.cells (zd zz).toArray 76);rw[s1] at u o;rw[o] at z;refine⟨(),⟨.cons (by rw[j];rfl) (.cons (by rw[j,<- s1];rfl) (.cons (by rw[j,<- o];rfl) .nil)),rfl⟩,by rw[j];exact z6 _ (z6 _ h1),by rw[j];exact z6 _ u,by rw[j];exact z,y.alloc y.size _⟩
 rintro _ X ⟨fB,t,k,h⟩;have fX:=zb h fx;have m:=hv.below h;refine⟨Unit,fun _=>⟨[(4,At0 (L+2))],[]⟩,fun _ Y=>zQ Y (L+2) (zgs x r)/\Bw w Y,?_,?_⟩
 ·refine⟨i64 r.n,by have:=zc (za t) (i:=0) (v:=i64 r.n) rfl;exact this,?_⟩;have en:zgs x r=za9 x.ev.length fun a d=>zl r a d && !decide ((evA x a).th=(evA x d).th):=by
   unfold zgs;rw[hn];rfl
  rw[hn];refine cmo (zks (n:=x.ev.length) (caps := #[At0 (L+1),At0 L]) (g:=214) (p:=fun a d=>zl r a d && !decide ((evA x a).th=(evA x d).th)) (by omega) (by kernel_rfl) fun a d Z ha hd l=>zr7 (zb l t) hr (zb l fB) (zb l fX) (m.below l) ha hd) ?_;rintro e Y ⟨rfl,f⟩;rw[<- en];have k:=zb f k;exact zo (v := .agg (zd (zgs x r)).toArray) k76 k (ze _) (ze _) (zD _) ⟨(),(cvE rfl rfl),zk k,zh ((zst h f)) (by omega) _⟩
 rintro _ Y ⟨k,f⟩;exact⟨zd (zgs x r),ze _,za k,rfl,f⟩
end
section
variable{b c:Nat}{x:ExD}{q:OA}{w:Wd}
theorem zoI{md:UInt8}(fx:ExH w b x q c)(hv:ExW w x q)(hT:Tz64M w):CB 215 #[At0 b,u8 md] w (.agg (zd (zL x md)).toArray):=by
 refine qg 70 [At0 b,u8 md] (.c .p (.c .p (.c .p (.c .p (.c .p (.c .p (.c .p .p))))))) Tryz.func215 ?_;obtain⟨L,hL⟩:=nm (w.heap.size);have hn:=hv.n;obtain⟨n,hnn⟩:=nm (x.ev.length);refine⟨Unit,fun _=>⟨[(0,At0 b),(1,u8 md),(4,At0 L)],[]⟩,fun _ X=>zQ X L zz/\Bw w X,⟨(),⟨.cons rfl (.cons rfl (.cons (by rw[hL];rfl) .nil)),rfl⟩,by rw[hL];exact zw w _,(zba w _)⟩,?_⟩;rintro _ X ⟨f0,hbX⟩;refine⟨Unit,fun _=>⟨[(0,At0 b),(1,u8 md),(4,At0 L),(5,i64 n)],[]⟩,fun _ Y=>X=Y,?_,?_⟩
 ·exact⟨_,zc (za (zb hbX fx)) (i:=0) rfl,(),⟨.cons rfl (.cons rfl (.cons rfl (.cons (by rw[hnn];rfl) .nil))),rfl⟩,rfl⟩
 rintro _ _ rfl;refine⟨Unit,fun _=>⟨[(0,At0 b),(1,u8 md),(4,At0 L),(5,i64 n),(6,.slice none 0 0)],[]⟩,fun _ Y=>X=Y,⟨(),(cvE rfl rfl),rfl⟩,?_⟩;rintro _ _ rfl;obtain⟨pr,hpr⟩:∃pr:Nat->Bool,pr=fun i=>decide ((evA x i).k=3)&&decide ((evA x i).m=md):=⟨_,rfl⟩;obtain⟨B,hB⟩:=nm (X.heap.size);refine⟨OA×Nat,fun s=>⟨[(0,At0 b),(4,At0 L),(5,i64 n),(6,.slice s.1 ((List.range n).filter pr).length s.2)],[]⟩,fun s V=>OwnS zB 3 B V s.1 s.2 ((List.range n).filter pr)/\Below B X V,?_,?_⟩
 ·refine⟨_,zc (za (zb hbX fx)) (i:=0) rfl,?_⟩;refine⟨Nat×OA×Nat,fun s=>⟨[(0,At0 b),(1,u8 md),(4,At0 L),(5,i64 n),(6,.slice s.2.1 ((List.range s.1).filter pr).length s.2.2),(23,.slice q x.ev.length c),(24,i64 x.ev.length),(25,i64 (s.1:Nat))],[]⟩,fun s V=>s.1<=x.ev.length/\OwnS zB 3 B V s.2.1 s.2.2 ((List.range s.1).filter pr)/\Below B X V,fun s=>x.ev.length-s.1,(0,none,0),
   (cvE rfl rfl),⟨UP _,OwnS.nil,by rw[hB];exact UR _ _⟩,?_⟩
  rintro⟨k,ps,cs⟩ V ⟨hk,oV,hbV⟩;dsimp only at hk oV ⊢;have hVs:B<=V.heap.size:=by have:=hbV.size;omega
  refine biE (fun hc=>?_) fun hc=>?_
  ·have hc:(k:Int)<(x.ev.length:Int):=dT hc;have hkl:k<x.ev.length:=by omega
   have hbwV:=hbX.trans (hbV.mono (by rw[hB];exact hbX.size));obtain⟨bq,oq,hqe,hb,hat⟩:=zbE (hv.ev.below hbwV) hkl;have hfl:(List.range (k+1)).filter pr=(List.range k).filter pr++if pr k=true then[k] else[]:=by
    rw[QL,Kq,Qe,List.filter_nil]
   have hprk:pr k=(decide ((evA x k).k=3)&&decide ((evA x k).m=md)):=by rw[hpr]
   have hll2:((List.range k).filter pr).length<=k:=by
    have:=JH pr (List.range k);rw[KN] at this;exact this
   obtain⟨e,he⟩:=nm (evA x k);rw[<- he] at hat hprk;have eq0:some (Value.slice q x.ev.length c)=some (Value.slice (some ⟨bq,oq,none⟩) x.ev.length c):=by rw[hqe]
   subst hqe;refine⟨k,rfl,hkl,evE.enc e,rfl,hat,hb,zr (X:=V) (v := .agg (evE.enc e).toArray) k80 rfl rfl (Qa.2 fun u hu=>evE.one e u hu) fun U hbU fU sU=>?_⟩;have fU:U.heap[V.heap.size]?=some (.cells (evE.enc e).toArray 80 (0,0)):=fU;have oU:=oV.below hbU;have hbU2:=hbV.trans (hbU.mono hVs);have hUs:B<=U.heap.size:=by have:=hbU.size;omega
   have skip:pr k=false->(k+1<=x.ev.length/\OwnS zB 3 B U ps cs ((List.range (k+1)).filter pr)/\Below B X U):=fun h=>⟨hkl,by rw[hfl,h];simpa using oU,hbU2⟩;have skipE:pr k=false->((List.range (k+1)).filter pr).length=((List.range k).filter pr).length:=fun h=>by rw[hfl,h];simp
   refine⟨u8 e.k,zc (za fU) (i:=1) rfl,biE (fun h1=>?_) fun h1=>?_⟩
   ·have h1:e.k=3:=qm.1 (dT h1);refine⟨u8 e.m,zc (za fU) (i:=4) rfl,biE (fun h2=>?_) fun h2=>?_⟩
    ·have h2:e.m=md:=qm.1 (dT h2);have hp1:pr k=true:=(by rw[hprk,Uh h1,Uh h2];rfl);rw[Gd hp1] at hfl;refine⟨⟨by decide,by decide,rfl⟩,zB.enc k,rfl,?_⟩;have hb2:Bw U (U.alloc (.cells (zB.enc k).toArray 3)):=zba _ _;have sb2:=hb2.size;unfold zcA jP;show SatR _ _;refine znf (oU.below hb2) (qq zB k) (by omega) (by omega) fun p' c' S oS gS hat2=>?_;rw[j7] at gS;rw[<- hfl] at oS ⊢;exact nxI (by omega) ⟨(k+1,p',c'),(cvE rfl rfl),⟨hkl,oS,hbU2.trans ((hb2.mono hUs).trans (qB (oU.below hb2) (by omega) (UN _) gS))⟩,zdc (by omega)⟩
    ·have h2:¬e.m=md:=fun e2=>(dF h2) (by rw[e2]);have hp0:pr k=false:=(by rw[hprk,QX h2,QY]);exact nxI (by omega) ⟨(k+1,ps,cs),⟨.cons rfl (.cons rfl (.cons rfl (.cons rfl (.cons (by show _=some (Value.slice ps ((List.range (k+1)).filter pr).length cs);rw[skipE hp0];rfl) (.cons rfl (.cons rfl (.cons rfl .nil))))))),rfl⟩,skip hp0,zdc (by omega)⟩
   ·have h1:¬e.k=3:=fun e2=>(dF h1) (by rw[e2];rfl);have hp0:pr k=false:=(by rw[hprk,QX h1];rfl);exact brF (nxI (by omega) ⟨(k+1,ps,cs),⟨.cons rfl (.cons rfl (.cons rfl (.cons rfl (.cons (by show _=some (Value.slice ps ((List.range (k+1)).filter pr).length cs);rw[skipE hp0];rfl) (.cons rfl (.cons rfl (.cons rfl .nil))))))),rfl⟩,skip hp0,zdc (by omega)⟩)
  ·have hc:¬(k:Int)<(x.ev.length:Int):=dF hc;obtain rfl:k=x.ev.length:=by omega
   rw[<- hnn] at oV ⊢;exact⟨(ps,cs),(cvE rfl rfl),oV,hbV⟩
 rintro⟨ps,cs⟩ V ⟨oV,hbV⟩;dsimp only at oV ⊢;have hVs:B<=V.heap.size:=by have:=hbV.size;omega
 have hbwV:=hbX.trans (hbV.mono (by rw[hB];exact hbX.size));have hmask:orG ((List.range n).filter pr)=zaE x md:=by rw[hpr,hnn];rfl
 have hlt64:∀i∈(List.range n).filter pr,i<64:=fun i hi=>by
  have:=Ue.1 (QI.1 hi).1;omega
 have hlen:((List.range n).filter pr).length<=n:=by
  have:=JH pr (List.range n);rw[KN] at this;exact this
 refine⟨Unit,fun _=>⟨[(0,At0 b),(4,At0 L),(5,i64 n),(9,s64 (zaE x md))],[]⟩,fun _ Y=>V=Y,?_,?_⟩
 ·refine cmo (ztT oV.row hlt64 (by omega)) ?_;rintro e Y ⟨rfl,rfl⟩;rw[hmask];exact⟨(),(cvE rfl rfl),rfl⟩
 rintro _ _ rfl;have hm64:zaE x md<2^64:=by rw[<- hmask];exact zob hlt64
 replace f0:=zb (by subst hB;exact hbV) f0;have fV:=zb hbwV fx;have hvV:=hv.below hbwV;have hTV:=hT.below hbwV;clear oV hbX hbV hlen hlt64 hmask hpr hB hVs;clear B ps cs pr X;have idw:zG (idR n (zaE x md)).to:=fun i hi=>by
  unfold idR;exact zc2 (fun i _ _=>Kz QN hm64) i hi
 have hba:∀(A:Wd) (o:Obj),Bw A (A.alloc o):=fun A o=>(zba _ _);refine⟨Nat,fun F=>⟨[(0,At0 b),(4,At0 L),(11,At0 F)],[]⟩,fun F Z=>zQ Z F (q9 x.po (idR n (zaE x md))).1/\zQ Z L zz/\Bw w Z,?_,?_⟩
 ·have dV:Bw V V.drew:=(UR _ _).drew;have put:∀(W:Wd) (b3:Nat),Bw V W->zQ W b3 zz->V.heap.size<=b3->∀{K:Wd->Prop},(∀Y,(zQ Y b3 (q9 x.po (idR n (zaE x md))).1/\zQ Y L zz/\Bw w Y)->K Y) ->
    SatR ((storeVar 76 ⟨b3,0,none⟩ (.agg (zd (q9 x.po (idR n (zaE x md))).1).toArray)).run PG W) fun _ w'=>K w':=by
   intro W b3 hW f3 g3 K k;refine zo (v := .agg (zd (q9 x.po (idR n (zaE x md))).1).toArray) k76 f3 (ze _) (ze _) (zD _) ?_;have hL2:=hlt f0;exact k _ ⟨zk f3,(zq (by omega)).trans (zb hW f0),zh ((zst hbwV hW)) (by have:=hbwV.size;omega) _⟩
  refine DrawE.treeQ [12] (.op 0 (.op 1 (.op 2 (.op 3 (.op 4 (.op 5 (.alt (.op 11 (.op 6 (.op 7 (.op 8 (.op 9 (.op 10 (.op 12 (.op 13 (.nil))))))))) (.op 6 (.alt (.op 11 (.op 7 (.op 8 (.op 9 (.op 10 (.op 12 (.op 13 (.nil)))))))) (.op 7 (.op 8 (.op 9 (.op 10 (.op 11 (.op 12 (.op 13 (.nil))))))))))))))))) (by kernel_rfl) ⟨zd x.po,ze _,q6 (hdr fV) (i:=0) (by decide) rfl,hlt (hdr fV),UV ?_ ?_⟩
  ·refine⟨hba _ _,?_⟩;have b1:=dV.alloc (UN _) (.cells (zd zz).toArray 76);refine cmo (ztl (n:=n) (by omega) hm64) ?_;rintro e Y ⟨rfl,hbY⟩;refine⟨hbY,?_⟩;have b2:=zst b1 hbY;refine cmo (zbH hvV.po idw (hTV.below b2)) ?_;rintro e Z ⟨rfl,hbZ⟩;exact⟨hbZ,put Z V.heap.size ((zst b2 hbZ)) (zb hbZ (zb hbY (zw V.drew _))) (UN _) (fun Y hY=>⟨V.heap.size,(cvE rfl rfl),hY⟩)⟩
  refine cmo (ztl (n:=n) (by omega) hm64) ?_;rintro e Y ⟨rfl,hbY⟩;refine⟨hbY,?_⟩;have b1:=zst dV hbY;refine UV ?_ ?_
  ·refine⟨hba _ _,?_⟩;have b2:=b1.alloc b1.size (.cells (zd zz).toArray 76);refine cmo (zbH hvV.po idw (hTV.below b2)) ?_;rintro e Z ⟨rfl,hbZ⟩;exact⟨hbZ,put Z Y.heap.size ((zst b2 hbZ)) (zb hbZ (zw Y _)) b1.size (fun V2 hV=>⟨Y.heap.size,(cvE rfl rfl),hV⟩)⟩
  ·refine cmo (zbH hvV.po idw (hTV.below b1)) ?_;rintro e Z ⟨rfl,hbZ⟩;refine⟨hbZ,?_⟩;have b2:=zst b1 hbZ;exact⟨hba _ _,put _ Z.heap.size (b2.alloc b2.size _) (zw Z _) b2.size (fun V2 hV=>⟨Z.heap.size,(cvE rfl rfl),hV⟩)⟩
 clear f0 fV hvV hTV hbwV;clear V;rintro F V ⟨f1,f0,hbV⟩;have fV:=zb hbV fx;have hTV:=hT.below hbV;have hFw:=zcp hv.po idw;have efen:(q9 (q9 x.po (idR n (zaE x md))).1 x.po).1=zL x md:=by rw[hnn];rfl
 refine⟨Nat,fun G=>⟨[(4,At0 L),(13,At0 G)],[]⟩,fun G Z=>zQ Z G (zL x md)/\zQ Z L zz/\Bw w Z,?_,?_⟩
 ·have dV:Bw V V.drew:=(UR _ _).drew;have put:∀(W:Wd) (b3:Nat),Bw V W->zQ W b3 zz->V.heap.size<=b3->∀{K:Wd->Prop},(∀Y,(zQ Y b3 (zL x md)/\zQ Y L zz/\Bw w Y)->K Y) ->
    SatR ((storeVar 76 ⟨b3,0,none⟩ (.agg (zd (zL x md)).toArray)).run PG W) fun _ w'=>K w':=by
   intro W b3 hW f3 g3 K k;refine zo (v := .agg (zd (zL x md)).toArray) k76 f3 (ze _) (ze _) (zD _) ?_;have hL2:=hlt f0;exact k _ ⟨zk f3,(zq (by omega)).trans (zb hW f0),zh ((zst hbV hW)) (by have:=hbV.size;omega) _⟩
  refine DrawE.treeQ [10] (.op 0 (.op 1 (.op 2 (.op 3 (.op 4 (.alt (.op 9 (.op 5 (.op 6 (.op 7 (.op 8 (.op 10 (.op 11 .nil))))))) (.op 5 (.op 6 (.op 7 (.op 8 (.op 9 (.op 10 (.op 11 .nil))))))))))))) (by kernel_rfl) ⟨zd _,ze _,za (hdr f1),hlt (hdr f1),zd x.po,ze _,q6 (hdr fV) (i:=0) (by decide) rfl,hlt (hdr fV),UV ?_ ?_⟩
  ·refine⟨hba _ _,?_⟩;have b1:=dV.alloc (UN _) (.cells (zd zz).toArray 76);refine cmo (zbH hFw hv.po (hTV.below b1)) ?_;rintro e Y ⟨rfl,hbY⟩;refine⟨hbY,?_⟩;rw[efen];exact put Y V.heap.size ((zst b1 hbY)) (zb hbY (zw V.drew _)) (UN _) (fun Y hY=>⟨V.heap.size,(cvE rfl rfl),hY⟩)
  ·refine cmo (zbH hFw hv.po (hTV.below dV)) ?_;rintro e Y ⟨rfl,hbY⟩;refine⟨hbY,?_⟩;have b1:=zst dV hbY;refine⟨hba _ _,?_⟩;rw[efen];exact put _ Y.heap.size (b1.alloc b1.size _) (zw Y _) b1.size (fun V2 hV=>⟨Y.heap.size,(cvE rfl rfl),hV⟩)
 rintro G Z ⟨f1,f0,hbZ⟩;exact⟨zd (zL x md),ze _,za f1,hlt f1,zo (v := .agg (zd (zL x md)).toArray) k76 f0 (ze _) (ze _) (zD _) ⟨zd (zL x md),ze _,za (zk f0),rfl,zh hbZ (by omega) _⟩⟩
end
section
variable{w:Wd}{b c:Nat}{x:ExD}{q:OA}{f l s:RelD}
theorem zpV{a d:Nat}:CB 282 #[At0 b,i64 (a:Nat),i64 (d:Nat)] w (.bool (zd5 1 x f l s a d)):=by
 refine zC 7 [At0 b,i64 (a:Nat),i64 (d:Nat)] Tryz.func282 ?_;exact⟨rfl,UR _ _⟩
theorem zpU{a d:Nat}:CB 283 #[At0 b,i64 (a:Nat),i64 (d:Nat)] w (.bool (zd5 2 x f l s a d)):=by
 refine zC 7 [At0 b,i64 (a:Nat),i64 (d:Nat)] Tryz.func283 ?_;exact⟨rfl,UR _ _⟩
theorem zpT{a d:Nat}(h:ScnV w b x q c f l s)(ha:a<x.ev.length)(hd:d<x.ev.length):CB 284 #[At0 b,i64 (a:Nat),i64 (d:Nat)] w (.bool (zd5 3 x f l s a d)):=by
 refine zC 21 [At0 b,i64 (a:Nat),i64 (d:Nat)] Tryz.func284 ?_;have m:=h.v.n;have o:a<48:=by omega
 have k:d<48:=by omega
 have j:=UR w.heap.size w;refine cmo (zdm h ha) ?_;rintro e _ ⟨rfl,rfl⟩;refine biE (fun g=>?_) fun g=>?_
 ·have g:isR x a=true:=g;exact brT ⟨rb (by show _=(isR x a||(isW x d||jX x f a d));rw[g];rfl),j⟩
 ·have g:isR x a=false:=g;refine cmo (qW h hd) ?_;rintro e _ ⟨rfl,rfl⟩;refine biE (fun i=>?_) fun i=>?_
  ·have i:isW x d=true:=i;exact⟨rb (by show _=(isR x a||(isW x d||jX x f a d));rw[g,i];rfl),j⟩
  ·have i:isW x d=false:=i;refine cmo (zl2 h ha hd) ?_;rintro e _ ⟨rfl,rfl⟩;exact⟨rb (by show _=(isR x a||(isW x d||jX x f a d));rw[g,i];rfl),j⟩
theorem zpS{a d:Nat}(h:ScnV w b x q c f l s)(ha:a<x.ev.length)(hd:d<x.ev.length):CB 288 #[At0 b,i64 (a:Nat),i64 (d:Nat)] w (.bool (zd5 4 x f l s a d)):=by
 refine zC 37 [At0 b,i64 (a:Nat),i64 (d:Nat)] Tryz.func288 ?_;have t:=h.v.n;have r:a<48:=by omega
 have p:d<48:=by omega
 have g:=UR w.heap.size w;refine cmo (zdm h ha) ?_;rintro e _ ⟨rfl,rfl⟩;refine biE (fun i=>?_) fun i=>?_
 ·have i:isR x a=true:=i;exact brT ⟨rb (by show _=(isR x a||(jX x f a d||(isW x d&&(za4 x a d||zl s a d))));rw[i];rfl),g⟩
 ·have i:isR x a=false:=i;refine cmo (zl2 h ha hd) ?_;rintro e _ ⟨rfl,rfl⟩;refine biE (fun j=>?_) fun j=>?_
  ·have j:jX x f a d=true:=j;exact⟨rb (by show _=(isR x a||(jX x f a d||(isW x d&&(za4 x a d||zl s a d))));rw[i,j];rfl),g⟩
  ·have j:jX x f a d=false:=j;refine cmo (qW h hd) ?_;rintro e _ ⟨rfl,rfl⟩;refine biE (fun k=>?_) fun k=>?_
   ·have k:isW x d=true:=k;refine cmo (znO h.cells h.v.ev ha hd) ?_;rintro e Z4 ⟨rfl,m⟩;have h:=h.below m;have g:=zst g m;refine biE (fun o=>?_) fun o=>?_
    ·have o:za4 x a d=true:=o;exact⟨rb (by show _=(isR x a||(jX x f a d||(isW x d&&(za4 x a d||zl s a d))));rw[i,j,k,o];rfl),g⟩
    ·have o:za4 x a d=false:=o;refine cmo (zO h.stores h.ws r p) ?_;rintro e _ ⟨rfl,rfl⟩;exact⟨rb (by show _=(isR x a||(jX x f a d||(isW x d&&(za4 x a d||zl s a d))));rw[i,j,k,o];rfl),g⟩
   ·have k:isW x d=false:=k;exact⟨rb (by show _=(isR x a||(jX x f a d||(isW x d&&(za4 x a d||zl s a d))));rw[i,j,k];rfl),g⟩
theorem zpR{a d:Nat}(h:ScnV w b x q c f l s)(ha:a<x.ev.length)(hd:d<x.ev.length):CB 289 #[At0 b,i64 (a:Nat),i64 (d:Nat)] w (.bool (zd5 5 x f l s a d)):=by
 refine zC 49 [At0 b,i64 (a:Nat),i64 (d:Nat)] Tryz.func289 ?_;have hn:=h.v.n;have z:a<48:=by omega
 have u:d<48:=by omega
 have g:=UR w.heap.size w;refine cmo (zdm h ha) ?_;rintro e _ ⟨rfl,rfl⟩;refine biE (fun j=>?_) fun j=>?_
 ·have j:isR x a=true:=j;refine cmo (zcq (md:=1) h ha) ?_;rintro e _ ⟨rfl,rfl⟩;refine biE (fun m=>?_) fun m=>?_
  ·have m:zP x a 1=true:=m;exact brT (brT ⟨rb (by show _=((isR x a&&(zP x a 1||zl l a d))||((isW x d&&(zP x d 2||zl s a d))||zl f a d));rw[j,m];rfl),g⟩)
  ·have m:zP x a 1=false:=m;refine cmo (zO h.loads h.wl z u) ?_;rintro e _ ⟨rfl,rfl⟩;refine biE (fun o=>?_) fun o=>?_
   ·have o:zl l a d=true:=o;exact brT ⟨rb (by show _=((isR x a&&(zP x a 1||zl l a d))||((isW x d&&(zP x d 2||zl s a d))||zl f a d));rw[j,m,o];rfl),g⟩
   ·have o:zl l a d=false:=o;refine cmo (qW h hd) ?_;rintro e _ ⟨rfl,rfl⟩;refine biE (fun p=>?_) fun p=>?_
    ·have p:isW x d=true:=p;refine cmo (zcq (md:=2) h hd) ?_;rintro e _ ⟨rfl,rfl⟩;refine biE (fun t=>?_) fun t=>?_
     ·have t:zP x d 2=true:=t;exact brT ⟨rb (by show _=((isR x a&&(zP x a 1||zl l a d))||((isW x d&&(zP x d 2||zl s a d))||zl f a d));rw[j,m,o,p,t];rfl),g⟩
     ·have t:zP x d 2=false:=t;refine cmo (zO h.stores h.ws z u) ?_;rintro e _ ⟨rfl,rfl⟩;refine biE (fun y=>?_) fun y=>?_
      ·have y:zl s a d=true:=y;exact⟨rb (by show _=((isR x a&&(zP x a 1||zl l a d))||((isW x d&&(zP x d 2||zl s a d))||zl f a d));rw[j,m,o,p,t,y];rfl),g⟩
      ·have y:zl s a d=false:=y;refine cmo (zO h.full h.wf z u) ?_;rintro e _ ⟨rfl,rfl⟩;exact⟨rb (by show _=((isR x a&&(zP x a 1||zl l a d))||((isW x d&&(zP x d 2||zl s a d))||zl f a d));rw[j,m,o,p,t,y];rfl),g⟩
    ·have p:isW x d=false:=p;refine brF (cmo (zO h.full h.wf z u) ?_);rintro e _ ⟨rfl,rfl⟩;exact⟨rb (by show _=((isR x a&&(zP x a 1||zl l a d))||((isW x d&&(zP x d 2||zl s a d))||zl f a d));rw[j,m,o,p];rfl),g⟩
 ·have j:isR x a=false:=j;refine brF (cmo (qW h hd) ?_);rintro e _ ⟨rfl,rfl⟩;refine biE (fun r=>?_) fun r=>?_
  ·have r:isW x d=true:=r;refine cmo (zcq (md:=2) h hd) ?_;rintro e _ ⟨rfl,rfl⟩;refine biE (fun i=>?_) fun i=>?_
   ·have i:zP x d 2=true:=i;exact brT ⟨rb (by show _=((isR x a&&(zP x a 1||zl l a d))||((isW x d&&(zP x d 2||zl s a d))||zl f a d));rw[j,r,i];rfl),g⟩
   ·have i:zP x d 2=false:=i;refine cmo (zO h.stores h.ws z u) ?_;rintro e _ ⟨rfl,rfl⟩;refine biE (fun k=>?_) fun k=>?_
    ·have k:zl s a d=true:=k;exact⟨rb (by show _=((isR x a&&(zP x a 1||zl l a d))||((isW x d&&(zP x d 2||zl s a d))||zl f a d));rw[j,r,i,k];rfl),g⟩
    ·have k:zl s a d=false:=k;refine cmo (zO h.full h.wf z u) ?_;rintro e _ ⟨rfl,rfl⟩;exact⟨rb (by show _=((isR x a&&(zP x a 1||zl l a d))||((isW x d&&(zP x d 2||zl s a d))||zl f a d));rw[j,r,i,k];rfl),g⟩
  ·have r:isW x d=false:=r;refine brF (cmo (zO h.full h.wf z u) ?_);rintro e _ ⟨rfl,rfl⟩;exact⟨rb (by show _=((isR x a&&(zP x a 1||zl l a d))||((isW x d&&(zP x d 2||zl s a d))||zl f a d));rw[j,r];rfl),g⟩
theorem zpQ{a d:Nat}(h:ScnV w b x q c f l s)(ha:a<x.ev.length)(hd:d<x.ev.length):CB 291 #[At0 b,i64 (a:Nat),i64 (d:Nat)] w (.bool (zd5 6 x f l s a d)):=by
 refine zC 81 [At0 b,i64 (a:Nat),i64 (d:Nat)] Tryz.func291 ?_;have hn:=h.v.n;have hA:a<48:=by omega
 have hD:d<48:=by omega
 have g:=UR w.heap.size w;refine cmo (zO (zeM h.cells (zr8 x q c)) h.v.dt hA hD) ?_;rintro e _ ⟨rfl,rfl⟩;refine biE (fun k=>?_) fun k=>?_
 ·have k:zl x.dt a d=true:=k;exact brT (brT (brT (brT ⟨rb (by show _=(zl x.dt a d||((zl x.ct a d&&isW x d)||(zl x.rm a d||(zl f a d||((zl l a d&&(isR x a&&isR x d))||(zl s a d&&(isW x a&&isW x d)))))));rw[k];rfl),g⟩)))
 ·have k:zl x.dt a d=false:=k;refine cmo (zO (zeM h.cells (zr9 x q c)) h.v.ct hA hD) ?_;rintro e _ ⟨rfl,rfl⟩;refine biE (fun o=>?_) fun o=>?_
  ·have o:zl x.ct a d=true:=o;refine cmo (qW h hd) ?_;rintro e _ ⟨rfl,rfl⟩;refine biE (fun t=>?_) fun t=>?_
   ·have t:isW x d=true:=t;exact brT (brT (brT ⟨rb (by show _=(zl x.dt a d||((zl x.ct a d&&isW x d)||(zl x.rm a d||(zl f a d||((zl l a d&&(isR x a&&isR x d))||(zl s a d&&(isW x a&&isW x d)))))));rw[k,o,t];rfl),g⟩))
   ·have t:isW x d=false:=t;refine cmo (zO (zeM h.cells (zoM x q c)) h.v.rm hA hD) ?_;rintro e _ ⟨rfl,rfl⟩;refine biE (fun h4=>?_) fun h4=>?_
    ·have h4:zl x.rm a d=true:=h4;exact brT (brT ⟨rb (by show _=(zl x.dt a d||((zl x.ct a d&&isW x d)||(zl x.rm a d||(zl f a d||((zl l a d&&(isR x a&&isR x d))||(zl s a d&&(isW x a&&isW x d)))))));rw[k,o,t,h4];rfl),g⟩)
    ·have h4:zl x.rm a d=false:=h4;refine cmo (zO h.full h.wf hA hD) ?_;rintro e _ ⟨rfl,rfl⟩;refine biE (fun h5=>?_) fun h5=>?_
     ·have h5:zl f a d=true:=h5;exact brT ⟨rb (by show _=(zl x.dt a d||((zl x.ct a d&&isW x d)||(zl x.rm a d||(zl f a d||((zl l a d&&(isR x a&&isR x d))||(zl s a d&&(isW x a&&isW x d)))))));rw[k,o,t,h4,h5];rfl),g⟩
     ·have h5:zl f a d=false:=h5;refine cmo (zO h.loads h.wl hA hD) ?_;rintro e _ ⟨rfl,rfl⟩;refine biE (fun h6=>?_) fun h6=>?_
      ·have h6:zl l a d=true:=h6;refine cmo (zdm h ha) ?_;rintro e _ ⟨rfl,rfl⟩;refine biE (fun h7=>?_) fun h7=>?_
       ·have h7:isR x a=true:=h7;refine cmo (zdm h hd) ?_;rintro e _ ⟨rfl,rfl⟩;refine biE (fun h8=>?_) fun h8=>?_
        ·have h8:isR x d=true:=h8;exact⟨rb (by show _=(zl x.dt a d||((zl x.ct a d&&isW x d)||(zl x.rm a d||(zl f a d||((zl l a d&&(isR x a&&isR x d))||(zl s a d&&(isW x a&&isW x d)))))));rw[k,o,t,h4,h5,h6,h7,h8];rfl),g⟩
        ·have h8:isR x d=false:=h8;refine cmo (zO h.stores h.ws hA hD) ?_;rintro e _ ⟨rfl,rfl⟩;refine biE (fun h9=>?_) fun h9=>?_
         ·have h9:zl s a d=true:=h9;refine cmo (qW h ha) ?_;rintro e _ ⟨rfl,rfl⟩;refine biE (fun ac=>?_) fun ac=>?_
          ·have ac:isW x a=true:=ac;refine cmo (qW h hd) ?_;rintro e _ ⟨rfl,rfl⟩;exact⟨rb (by show _=(zl x.dt a d||((zl x.ct a d&&isW x d)||(zl x.rm a d||(zl f a d||((zl l a d&&(isR x a&&isR x d))||(zl s a d&&(isW x a&&isW x d)))))));rw[k,o,t,h4,h5,h6,h7,h8,h9,ac];rfl),g⟩
          ·have ac:isW x a=false:=ac;exact⟨rb (by show _=(zl x.dt a d||((zl x.ct a d&&isW x d)||(zl x.rm a d||(zl f a d||((zl l a d&&(isR x a&&isR x d))||(zl s a d&&(isW x a&&isW x d)))))));rw[k,o,t,h4,h5,h6,h7,h8,h9,ac];rfl),g⟩
         ·have h9:zl s a d=false:=h9;exact brF ⟨rb (by show _=(zl x.dt a d||((zl x.ct a d&&isW x d)||(zl x.rm a d||(zl f a d||((zl l a d&&(isR x a&&isR x d))||(zl s a d&&(isW x a&&isW x d)))))));rw[k,o,t,h4,h5,h6,h7,h8,h9];rfl),g⟩
       ·have h7:isR x a=false:=h7;refine brF (cmo (zO h.stores h.ws hA hD) ?_);rintro e _ ⟨rfl,rfl⟩;refine biE (fun aa=>?_) fun aa=>?_
        ·have aa:zl s a d=true:=aa;refine cmo (qW h ha) ?_;rintro e _ ⟨rfl,rfl⟩;refine biE (fun af=>?_) fun af=>?_
         ·have af:isW x a=true:=af;refine cmo (qW h hd) ?_;rintro e _ ⟨rfl,rfl⟩;exact⟨rb (by show _=(zl x.dt a d||((zl x.ct a d&&isW x d)||(zl x.rm a d||(zl f a d||((zl l a d&&(isR x a&&isR x d))||(zl s a d&&(isW x a&&isW x d)))))));rw[k,o,t,h4,h5,h6,h7,aa,af];rfl),g⟩
         ·have af:isW x a=false:=af;exact⟨rb (by show _=(zl x.dt a d||((zl x.ct a d&&isW x d)||(zl x.rm a d||(zl f a d||((zl l a d&&(isR x a&&isR x d))||(zl s a d&&(isW x a&&isW x d)))))));rw[k,o,t,h4,h5,h6,h7,aa,af];rfl),g⟩
        ·have aa:zl s a d=false:=aa;exact brF ⟨rb (by show _=(zl x.dt a d||((zl x.ct a d&&isW x d)||(zl x.rm a d||(zl f a d||((zl l a d&&(isR x a&&isR x d))||(zl s a d&&(isW x a&&isW x d)))))));rw[k,o,t,h4,h5,h6,h7,aa];rfl),g⟩
      ·have h6:zl l a d=false:=h6;refine brF (brF (cmo (zO h.stores h.ws hA hD) ?_));rintro e _ ⟨rfl,rfl⟩;refine biE (fun y=>?_) fun y=>?_
       ·have y:zl s a d=true:=y;refine cmo (qW h ha) ?_;rintro e _ ⟨rfl,rfl⟩;refine biE (fun ad=>?_) fun ad=>?_
        ·have ad:isW x a=true:=ad;refine cmo (qW h hd) ?_;rintro e _ ⟨rfl,rfl⟩;exact⟨rb (by show _=(zl x.dt a d||((zl x.ct a d&&isW x d)||(zl x.rm a d||(zl f a d||((zl l a d&&(isR x a&&isR x d))||(zl s a d&&(isW x a&&isW x d)))))));rw[k,o,t,h4,h5,h6,y,ad];rfl),g⟩
        ·have ad:isW x a=false:=ad;exact⟨rb (by show _=(zl x.dt a d||((zl x.ct a d&&isW x d)||(zl x.rm a d||(zl f a d||((zl l a d&&(isR x a&&isR x d))||(zl s a d&&(isW x a&&isW x d)))))));rw[k,o,t,h4,h5,h6,y,ad];rfl),g⟩
       ·have y:zl s a d=false:=y;exact brF ⟨rb (by show _=(zl x.dt a d||((zl x.ct a d&&isW x d)||(zl x.rm a d||(zl f a d||((zl l a d&&(isR x a&&isR x d))||(zl s a d&&(isW x a&&isW x d)))))));rw[k,o,t,h4,h5,h6,y];rfl),g⟩
  ·have o:zl x.ct a d=false:=o;refine brF (cmo (zO (zeM h.cells (zoM x q c)) h.v.rm hA hD) ?_);rintro e _ ⟨rfl,rfl⟩;refine biE (fun i=>?_) fun i=>?_
   ·have i:zl x.rm a d=true:=i;exact brT (brT ⟨rb (by show _=(zl x.dt a d||((zl x.ct a d&&isW x d)||(zl x.rm a d||(zl f a d||((zl l a d&&(isR x a&&isR x d))||(zl s a d&&(isW x a&&isW x d)))))));rw[k,o,i];rfl),g⟩)
   ·have i:zl x.rm a d=false:=i;refine cmo (zO h.full h.wf hA hD) ?_;rintro e _ ⟨rfl,rfl⟩;refine biE (fun j=>?_) fun j=>?_
    ·have j:zl f a d=true:=j;exact brT ⟨rb (by show _=(zl x.dt a d||((zl x.ct a d&&isW x d)||(zl x.rm a d||(zl f a d||((zl l a d&&(isR x a&&isR x d))||(zl s a d&&(isW x a&&isW x d)))))));rw[k,o,i,j];rfl),g⟩
    ·have j:zl f a d=false:=j;refine cmo (zO h.loads h.wl hA hD) ?_;rintro e _ ⟨rfl,rfl⟩;refine biE (fun m=>?_) fun m=>?_
     ·have m:zl l a d=true:=m;refine cmo (zdm h ha) ?_;rintro e _ ⟨rfl,rfl⟩;refine biE (fun p=>?_) fun p=>?_
      ·have p:isR x a=true:=p;refine cmo (zdm h hd) ?_;rintro e _ ⟨rfl,rfl⟩;refine biE (fun r=>?_) fun r=>?_
       ·have r:isR x d=true:=r;exact⟨rb (by show _=(zl x.dt a d||((zl x.ct a d&&isW x d)||(zl x.rm a d||(zl f a d||((zl l a d&&(isR x a&&isR x d))||(zl s a d&&(isW x a&&isW x d)))))));rw[k,o,i,j,m,p,r];rfl),g⟩
       ·have r:isR x d=false:=r;refine cmo (zO h.stores h.ws hA hD) ?_;rintro e _ ⟨rfl,rfl⟩;refine biE (fun z=>?_) fun z=>?_
        ·have z:zl s a d=true:=z;refine cmo (qW h ha) ?_;rintro e _ ⟨rfl,rfl⟩;refine biE (fun ah=>?_) fun ah=>?_
         ·have ah:isW x a=true:=ah;refine cmo (qW h hd) ?_;rintro e _ ⟨rfl,rfl⟩;exact⟨rb (by show _=(zl x.dt a d||((zl x.ct a d&&isW x d)||(zl x.rm a d||(zl f a d||((zl l a d&&(isR x a&&isR x d))||(zl s a d&&(isW x a&&isW x d)))))));rw[k,o,i,j,m,p,r,z,ah];rfl),g⟩
         ·have ah:isW x a=false:=ah;exact⟨rb (by show _=(zl x.dt a d||((zl x.ct a d&&isW x d)||(zl x.rm a d||(zl f a d||((zl l a d&&(isR x a&&isR x d))||(zl s a d&&(isW x a&&isW x d)))))));rw[k,o,i,j,m,p,r,z,ah];rfl),g⟩
        ·have z:zl s a d=false:=z;exact brF ⟨rb (by show _=(zl x.dt a d||((zl x.ct a d&&isW x d)||(zl x.rm a d||(zl f a d||((zl l a d&&(isR x a&&isR x d))||(zl s a d&&(isW x a&&isW x d)))))));rw[k,o,i,j,m,p,r,z];rfl),g⟩
      ·have p:isR x a=false:=p;refine brF (cmo (zO h.stores h.ws hA hD) ?_);rintro e _ ⟨rfl,rfl⟩;refine biE (fun u=>?_) fun u=>?_
       ·have u:zl s a d=true:=u;refine cmo (qW h ha) ?_;rintro e _ ⟨rfl,rfl⟩;refine biE (fun ag=>?_) fun ag=>?_
        ·have ag:isW x a=true:=ag;refine cmo (qW h hd) ?_;rintro e _ ⟨rfl,rfl⟩;exact⟨rb (by show _=(zl x.dt a d||((zl x.ct a d&&isW x d)||(zl x.rm a d||(zl f a d||((zl l a d&&(isR x a&&isR x d))||(zl s a d&&(isW x a&&isW x d)))))));rw[k,o,i,j,m,p,u,ag];rfl),g⟩
        ·have ag:isW x a=false:=ag;exact⟨rb (by show _=(zl x.dt a d||((zl x.ct a d&&isW x d)||(zl x.rm a d||(zl f a d||((zl l a d&&(isR x a&&isR x d))||(zl s a d&&(isW x a&&isW x d)))))));rw[k,o,i,j,m,p,u,ag];rfl),g⟩
       ·have u:zl s a d=false:=u;exact brF ⟨rb (by show _=(zl x.dt a d||((zl x.ct a d&&isW x d)||(zl x.rm a d||(zl f a d||((zl l a d&&(isR x a&&isR x d))||(zl s a d&&(isW x a&&isW x d)))))));rw[k,o,i,j,m,p,u];rfl),g⟩
     ·have m:zl l a d=false:=m;refine brF (brF (cmo (zO h.stores h.ws hA hD) ?_));rintro e _ ⟨rfl,rfl⟩;refine biE (fun ab=>?_) fun ab=>?_
      ·have ab:zl s a d=true:=ab;refine cmo (qW h ha) ?_;rintro e _ ⟨rfl,rfl⟩;refine biE (fun ae=>?_) fun ae=>?_
       ·have ae:isW x a=true:=ae;refine cmo (qW h hd) ?_;rintro e _ ⟨rfl,rfl⟩;exact⟨rb (by show _=(zl x.dt a d||((zl x.ct a d&&isW x d)||(zl x.rm a d||(zl f a d||((zl l a d&&(isR x a&&isR x d))||(zl s a d&&(isW x a&&isW x d)))))));rw[k,o,i,j,m,ab,ae];rfl),g⟩
       ·have ae:isW x a=false:=ae;exact⟨rb (by show _=(zl x.dt a d||((zl x.ct a d&&isW x d)||(zl x.rm a d||(zl f a d||((zl l a d&&(isR x a&&isR x d))||(zl s a d&&(isW x a&&isW x d)))))));rw[k,o,i,j,m,ab,ae];rfl),g⟩
      ·have ab:zl s a d=false:=ab;exact brF ⟨rb (by show _=(zl x.dt a d||((zl x.ct a d&&isW x d)||(zl x.rm a d||(zl f a d||((zl l a d&&(isR x a&&isR x d))||(zl s a d&&(isW x a&&isW x d)))))));rw[k,o,i,j,m,ab];rfl),g⟩
end
abbrev zb2:List Value:=[.nilFunc,.func (.func 282) #[] #[],.func (.func 283) #[] #[],.func (.func 284) #[] #[],.func (.func 288) #[] #[],.func (.func 289) #[] #[],.func (.func 291) #[] #[]]
section
variable{b c:Nat}{x:ExD}{q:OA}{w:Wd}{f l s:RelD}
theorem zpP:CB 216 #[] w (.agg zb2.toArray):=by
 refine qg 8 [] (.c .p .p) Tryz.func216 ?_;obtain⟨L,d⟩:=nm (w.heap.size);refine⟨Unit,fun _=>⟨[(0,At0 L)],[]⟩,fun _ X=>X.heap[L]?=some (.cells #[.nilFunc,.nilFunc,.nilFunc,.nilFunc,.nilFunc,.nilFunc,.nilFunc] 316 (0,0))/\Bw w X,⟨(),⟨.cons (by rw[d];rfl) .nil,rfl⟩,by rw[d];exact zw w _,(zba w _)⟩,?_⟩;rintro _ X ⟨e,a⟩;refine⟨[.func (.func 282) #[] #[]],by kernel_rfl,?_⟩;refine⟨[.func (.func 283) #[] #[]],by kernel_rfl,?_⟩;refine⟨[.func (.func 284) #[] #[]],by kernel_rfl,?_⟩;refine⟨[.func (.func 288) #[] #[]],by kernel_rfl,?_⟩;refine⟨[.func (.func 289) #[] #[]],by kernel_rfl,?_⟩;refine⟨[.func (.func 291) #[] #[]],by kernel_rfl,?_⟩;refine⟨zb2,by kernel_rfl,?_⟩;refine zo (v := .agg zb2.toArray) zs5 e rfl rfl rfl ?_;exact⟨zb2,rfl,za (zk e),rfl,zh a (by omega) _⟩
theorem zcW{S Rb Mb Sv g a d:Nat}{m:UInt8}{K:Bool}(hs:ScnV w S x q c f l s)(fSv:w.heap[Sv]?=some (.cells #[At0 S] 309 (0,0)))(fR:w.heap[Rb]?=some (.cells zb2.toArray 316 (0,0)))(fM:w.heap[Mb]?=some (.cells #[u8 m] 5 (0,0)))
  (hm7:m.toNat<7) (hm:zb2[m.toNat]?=some (.func (.func g) #[] #[])) (hok:jh (sg 0) g=true) (hK:∀X,Bw w X->Calls PG g #[At0 S,i64 (a:Nat),i64 (d:Nat)] X fun e Y=>e = .returned (.bool K)/\Bw X Y) (ha:a<x.ev.length) (hd:d<x.ev.length) :
  CB 217 #[i64 (a:Nat),i64 (d:Nat),At0 Sv,At0 Rb,At0 Mb] w (.bool (zl x.po a d&&(zcf x a&&(zcf x d&&K)))):=by
 refine zC 47 [i64 (a:Nat),i64 (d:Nat),At0 Sv,At0 Rb,At0 Mb] Tryz.func217 ?_;have hn:=hs.v.n;have fx:=hs.cells;obtain⟨bq,oq,aa,hb,ac⟩:=zbE hs.v.ev ha;obtain⟨ae,ag,h,af,o⟩:=zbE hs.v.ev hd;rw[aa] at h;simp only[KS,Uj,UX] at h;rw[<- h.1,<- h.2] at o;have ad:=hs.v.po;subst aa;have r:Bw w w.drew:=(UR _ _).drew;refine DrawE.ord [] [0,1,2,3,4,5,6,7,8,9,10,11,12,13,14,15,16,17,18,19,20,21,22,23,24,25,26,27,28,29,30,31,32,33,34,35,36,37,38,39] (by kernel_rfl) ?_;refine⟨At0 S,zc (za (hdr fSv)) (i:=0) rfl,?_⟩;refine cmo (zO (zeM (zt r fx) (zoN x _ c)) ad (by omega) (by omega)) ?_;rintro e _ ⟨rfl,rfl⟩;refine⟨UR _ _,?_⟩;refine biE (fun j=>?_) fun j=>?_
 ·have j:zl x.po a d=true:=j;refine⟨At0 S,zc (za (hdr fSv)) (i:=0) rfl,?_⟩;refine⟨_,j8 (zt r fx),?_⟩;refine⟨a,rfl,ha,?_⟩;refine⟨evE.enc (evA x a),rfl,zt r ac,nL hb r.size,?_⟩;refine cmo zen ?_;rintro e X ⟨rfl,y⟩;refine⟨y,?_⟩;have t:=r.trans y;rw[ziv];refine biE (fun k=>?_) fun k=>?_
  ·have k:zcf x a=true:=k;refine⟨At0 S,zc (za (zb t fSv)) (i:=0) rfl,?_⟩;refine⟨_,j8 (zt t fx),?_⟩;refine⟨d,rfl,hd,?_⟩;refine⟨evE.enc (evA x d),rfl,zt t o,nL hb t.size,?_⟩;refine cmo zen ?_;rintro e Y ⟨rfl,z⟩;refine⟨z,?_⟩;have u:=zst t z;rw[ziv];refine biE (fun p=>?_) fun p=>?_
   ·have p:zcf x d=true:=p;refine⟨u8 m,zc (za (zb u fM)) (i:=0) rfl,?_⟩;refine⟨m.toNat,rfl,hm7,?_⟩;refine⟨.func (.func g) #[] #[],by have:=zc (za (zb u fR)) (i:=m.toNat) (v := .func (.func g) #[] #[]) hm;rw[UO];exact this,?_⟩;refine⟨At0 S,zc (za (zb u fSv)) (i:=0) rfl,?_⟩;refine zgD hok (hK Y u) ?_;rintro e Z ⟨rfl,ab⟩;refine⟨_,rfl,ab,?_⟩;exact⟨rb (by rw[j,k,p];rfl),(zst u ab)⟩
   ·have p:zcf x d=false:=p;exact⟨rb (by rw[j,k,p];rfl),u⟩
  ·have k:zcf x a=false:=k;refine brF ?_;exact⟨rb (by rw[j,k];rfl),t⟩
 ·have j:zl x.po a d=false:=j;refine brF ?_;refine brF ?_;exact⟨rb (by rw[j];rfl),r⟩
theorem zjh{m:UInt8}(h:zaP m.toNat=true):m=1\/m=2\/m=3\/m=4\/m=5\/m=6:=by
 unfold zaP at h;rw[bAT,dE,dE] at h;simp only[<- QW];show m.toNat=1\/m.toNat=2\/m.toNat=3\/m.toNat=4\/m.toNat=5\/m.toNat=6;omega
theorem zqg{S Rb Mb Sv a d:Nat}{m:UInt8}(hk:zaP m.toNat=true)(hs:ScnV w S x q c f l s)(fSv:w.heap[Sv]?=some (.cells #[At0 S] 309 (0,0)))(fR:w.heap[Rb]?=some (.cells zb2.toArray 316 (0,0)))(fM:w.heap[Mb]?=some (.cells #[u8 m] 5 (0,0)))
  (ha:a<x.ev.length) (hd:d<x.ev.length) :
  CB 217 #[i64 (a:Nat),i64 (d:Nat),At0 Sv,At0 Rb,At0 Mb] w (.bool (zl x.po a d&&(zcf x a&&(zcf x d&&zd5 m.toNat x f l s a d)))):=by
 rcases zjh hk with rfl | rfl | rfl | rfl | rfl | rfl
 ·exact zcW (g:=282) hs fSv fR fM (by decide) rfl (by kernel_rfl) (fun X e=>zpV) ha hd
 ·exact zcW (g:=283) hs fSv fR fM (by decide) rfl (by kernel_rfl) (fun X e=>zpU) ha hd
 ·exact zcW (g:=284) hs fSv fR fM (by decide) rfl (by kernel_rfl) (fun X e=>zpT (hs.below e) ha hd) ha hd
 ·exact zcW (g:=288) hs fSv fR fM (by decide) rfl (by kernel_rfl) (fun X e=>zpS (hs.below e) ha hd) ha hd
 ·exact zcW (g:=289) hs fSv fR fM (by decide) rfl (by kernel_rfl) (fun X e=>zpR (hs.below e) ha hd) ha hd
 ·exact zcW (g:=291) hs fSv fR fM (by decide) rfl (by kernel_rfl) (fun X e=>zpQ (hs.below e) ha hd) ha hd
theorem zhV{X:Wd}{S o:Nat}{T:TypeId}{A Z:List Value}{r0 r:RelD}(h:X.heap[S]?=some (.cells (A++(zd r0++Z)).toArray T (0,0)))(hA:A.length=o){K:Wd->Prop}
  (k:∀Y,Y.heap[S]?=some (.cells (A++(zd r++Z)).toArray T (0,0))->X.grownBy Y (some S)->Y.heap.size=X.heap.size->K Y) :
  SatR ((storeVar 76 ⟨S,0+o,none⟩ (.agg (zd r).toArray)).run PG X) fun _ w'=>K w':=by
 rw[UH];refine jp k76 h (o:=o) (v := .agg (zd r).toArray) (ze _) (by show o+(zd r).length<=(A++(zd r0++Z)).length;rw[lap,lap,ze,ze];omega) (zD _) fun Y a e d=>k Y (a.trans ?_) e d;show some (Obj.cells ((A++(zd r0++Z)).take o++zd r++(A++(zd r0++Z)).drop (o+(zd r).length)).toArray T (0,0))=_;congr 3;rw[<- hA,List.take_left,ze,KH,<- Ua,Ub,<- ze r0,Ub]
theorem zrX{m:UInt8}(hk:zaP m.toNat=true)(fx:ExH w b x q c)(hv:ExW w x q)(hT:Tz64M w):CB 165 #[u8 m,At0 b] w (.agg (zd (zaU m.toNat x)).toArray):=by
 refine qg 35 [u8 m,At0 b] (.c .p (.c .p (.c .p (.c .p (.c .p .p))))) Tryz.func165 ?_;obtain⟨L,hL⟩:=nm (w.heap.size);have hn:=hv.n;refine⟨Unit,fun _=>⟨[(1,At0 b),(2,At0 L),(4,At0 (L+1))],[]⟩,fun _ X=>X.heap[L]?=some (.cells #[u8 m] 5 (0,0))/\zQ X (L+1) zz/\X.heap.size=L+2/\Bw w X,?_,?_⟩
 ·have s1:=wz w (.cells #[u8 m] 5);have h2:=zw (w.alloc (.cells #[u8 m] 5)) (.cells (zd zz).toArray 76);have s2:=wz (w.alloc (.cells #[u8 m] 5)) (.cells (zd zz).toArray 76);rw[s1] at h2 s2;have b1:Bw w (w.alloc (.cells #[u8 m] 5)):=zba w _;exact⟨(),⟨.cons rfl (.cons (by rw[hL];rfl) (.cons (by rw[hL,<- s1];rfl) .nil)),rfl⟩,by rw[hL];exact z6 _ (zw w _),by rw[hL];exact h2,by rw[hL];exact s2,b1.alloc b1.size _⟩
 rintro _ X ⟨fM,f0,sX,hbX⟩;have fX:=zb hbX fx;refine⟨Unit,fun _=>⟨[(1,At0 b),(2,At0 L),(4,At0 (L+1)),(5,At0 (L+3))],[]⟩,fun _ Y=>Y.heap[L+2]?=some (.cells (exC x q c++(zd zz++(zd zz++zd zz))).toArray 311 (0,0))/\Y.heap[L+3]?=some (.cells #[At0 (L+2)] 309 (0,0))/\Y.heap.size=L+4/\Bw X Y,?_,?_⟩
 ·refine⟨exC x q c,zM _ _ _,za fX,hlt fX,?_⟩;refine⟨exC x q c++(zd zz++(zd zz++zd zz)),by kernel_rfl,?_⟩;have s3:=wz X (.cells (exC x q c++(zd zz++(zd zz++zd zz))).toArray 311);refine zr (X:=X.alloc (.cells (exC x q c++(zd zz++(zd zz++zd zz))).toArray 311)) (v := .pointer (some ⟨X.heap.size,0,none⟩)) ztx rfl rfl rfl fun Z hbZ fZ sZ=>?_;rw[s3] at fZ sZ;rw[sX] at fZ sZ s3;have b1:Bw X (X.alloc (.cells (exC x q c++(zd zz++(zd zz++zd zz))).toArray 311)):=zba X _;refine⟨(),⟨.cons rfl (.cons rfl (.cons rfl (.cons (by rw[<- s3];rfl) .nil))),rfl⟩,?_,fZ,sZ,(zst b1 hbZ)⟩;refine zb hbZ ?_;rw[<- sX];exact zw X _
 rintro _ Y ⟨fS,fP,sY,hbY⟩;have hbwY:=zst hbX hbY;have fY:=zb hbwY fx;replace fM:=zb hbY fM;replace f0:=zb hbY f0;have hwX:=hbX.size;have hbL:b<L:=by rw[hL];exact hlt fx
 refine⟨Unit,fun _=>⟨[(1,At0 b),(2,At0 L),(4,At0 (L+1)),(5,At0 (L+3))],[]⟩,fun _ Z=>ScnV Z (L+2) x q c (zL x 3) (zL x 4) (zL x 5)/\Z.heap[L+3]?=some (.cells #[At0 (L+2)] 309 (0,0))/\Z.heap[L]?=some (.cells #[u8 m] 5 (0,0))/\zQ Z (L+1) zz/\ExH Z b x q c/\L+4<=Z.heap.size/\Bw w Z,?_,?_⟩
 ·have dY:Bw Y Y.drew:=(UR _ _).drew;obtain⟨Y1,hY1⟩:=nm (Y.drew);have bY1:Bw Y Y1:=by rw[hY1];exact dY
  have ld0:∀{W},Bw Y W->W.cell? ⟨L+3,0,none⟩=some (At0 (L+2)):=fun hW=>by
   have h2:=zc (za (zb hW fP)) (i:=0) (v:=At0 (L+2)) rfl;exact h2
  have fen:∀(md:UInt8) {W},Bw Y W->CB 215 #[At0 b,u8 md] W (.agg (zd (zL x md)).toArray):=fun md {W} hW =>
   have h2:=zst hbwY hW
   zoI (zb h2 fx) (hv.below h2) (hT.below h2)
  have ld1:∀W,(∃C,Bw Y C/\C.grownBy W (some (L+2)))->W.cell? ⟨L+3,0,none⟩=some (At0 (L+2)):=fun W ⟨C,bC,hW⟩=>by
   have fPC:=zb bC fP;have:=(hW.block (L+3) (hlt fPC) (by simp)).trans fPC;have h2:=zc (za this) (i:=0) (v:=At0 (L+2)) rfl;exact h2
  have s1:∀{C},Bw Y C->∀{K:Wd->Prop},(∀D,(D.heap[L+2]?=some (.cells ((exC x q c++zd (zL x 3))++(zd zz++zd zz)).toArray 311 (0,0))/\∃C,Bw Y C/\C.grownBy D (some (L+2)))->K D)->SatR ((storeVar 76 ⟨L+2,0+333,none⟩ (.agg (zd (zL x 3)).toArray)).run PG C) fun _ w'=>K w':=fun{C} bC {K} k =>
   zhV (o:=333) (A:=exC x q c) (Z:=zd zz++zd zz) (r:=zL x 3) (zb bC fS) (zM _ _ _) fun D fD gD sD=>k D ⟨by rw[fD];simp only[KH],C,bC,gD⟩
  have s2:∀D,(D.heap[L+2]?=some (.cells ((exC x q c++zd (zL x 3))++(zd zz++zd zz)).toArray 311 (0,0))/\∃C,Bw Y C/\C.grownBy D (some (L+2)))->∀{K:Wd->Prop},(∀F,(F.heap[L+2]?=some (.cells ((exC x q c++(zd (zL x 3)++zd (zL x 4)))++(zd zz++[])).toArray 311 (0,0))/\∃C,Bw Y C/\C.grownBy F (some (L+2)))->K F)->SatR ((storeVar 76 ⟨L+2,0+382,none⟩ (.agg (zd (zL x 4)).toArray)).run PG D) fun _ w'=>K w':=fun D ⟨fD,C,bC,gD⟩ {K} k =>
   zhV (o:=382) (A:=exC x q c++zd (zL x 3)) (Z:=zd zz) (r:=zL x 4) fD (by rw[lap,zM,ze]) fun F fF gF sF=>k F ⟨by rw[fF];simp only[KH,QA],C,bC,zf gD gF⟩
  have pw:∀md,zG (zL x md).to:=fun md=>zcp (zcp hv.po fun i hi=>by
   unfold idR;refine zc2 (fun i _ h48=>?_) i hi;exact Kz Qo (zT (by omega))) hv.po
  have s3:∀F,(F.heap[L+2]?=some (.cells ((exC x q c++(zd (zL x 3)++zd (zL x 4)))++(zd zz++[])).toArray 311 (0,0))/\∃C,Bw Y C/\C.grownBy F (some (L+2)))->∀{K:Wd->Prop},(∀G,(ScnV G (L+2) x q c (zL x 3) (zL x 4) (zL x 5)/\G.heap[L+3]?=some (.cells #[At0 (L+2)] 309 (0,0))/\G.heap[L]?=some (.cells #[u8 m] 5 (0,0))/\zQ G (L+1) zz/\ExH G b x q c/\L+4<=G.heap.size/\Bw w G)->K G)->SatR ((storeVar 76 ⟨L+2,0+431,none⟩ (.agg (zd (zL x 5)).toArray)).run PG F) fun _ w'=>K w':=fun F ⟨fF,C,bC,gF⟩ {K} k =>
   zhV (o:=431) (A:=exC x q c++(zd (zL x 3)++zd (zL x 4))) (Z:=[]) (r:=zL x 5) fF (by rw[lap,lap,zM,ze,ze]) fun G fG gG sG=>k G (by
    have gCG:C.grownBy G (some (L+2)):=zf gF gG;have bwC:=zst hbwY bC;have bCG:Below w.heap.size C G:=zm gCG bwC.size (by omega);have bwG:Bw w G:=bwC.trans bCG;have keep:∀{j:Nat} {o:Obj},j≠L+2->Y.heap[j]?=some o->G.heap[j]?=some o:=fun{j o} hj h=>by
     have h2:=zb bC h;exact(gCG.block j (hlt h2) (by simpa using hj)).trans h2
    refine⟨⟨?_,hv.below bwG,pw 3,pw 4,pw 5⟩,keep (by omega) fP,keep (by omega) fM,keep (by omega) f0,keep (by omega) fY,by have:=bC.size;have:=gCG.size;omega,bwG⟩;rw[fG];simp only[KH,QA])
  refine DrawE.treeR [11,14,17] (.op 0 (.op 3 (.op 5 (.op 7 (.alt (.op 4 (.alt (.op 6 (.alt (.op 8 (.op 9 (.op 10 (.alt (.op 11 (.alt (.op 1 (.op 12 (.op 13 (.alt (.op 14 (.op 2 (.op 15 (.op 16 (.op 17 (.nil)))))) (.op 2 (.op 14 (.op 15 (.op 16 (.op 17 (.nil)))))))))) (.op 2 (.op 1 (.op 12 (.op 13 (.op 14 (.op 15 (.op 16 (.op 17 (.nil))))))))))) (.alt (.op 1 (.alt (.op 11 (.op 12 (.op 13 (.alt (.op 14 (.op 2 (.op 15 (.op 16 (.op 17 (.nil)))))) (.op 2 (.op 14 (.op 15 (.op 16 (.op 17 (.nil)))))))))) (.op 2 (.op 11 (.op 12 (.op 13 (.op 14 (.op 15 (.op 16 (.op 17 (.nil))))))))))) (.op 2 (.alt (.op 11 (.op 1 (.op 12 (.op 13 (.op 14 (.op 15 (.op 16 (.op 17 (.nil))))))))) (.op 1 (.op 11 (.op 12 (.op 13 (.op 14 (.op 15 (.op 16 (.op 17 (.nil)))))))))))))))) (.alt (.op 1 (.alt (.op 8 (.op 9 (.op 10 (.alt (.op 11 (.op 12 (.op 13 (.alt (.op 14 (.op 2 (.op 15 (.op 16 (.op 17 (.nil)))))) (.op 2 (.op 14 (.op 15 (.op 16 (.op 17 (.nil)))))))))) (.op 2 (.op 11 (.op 12 (.op 13 (.op 14 (.op 15 (.op 16 (.op 17 (.nil))))))))))))) (.op 2 (.op 8 (.op 9 (.op 10 (.op 11 (.op 12 (.op 13 (.op 14 (.op 15 (.op 16 (.op 17 (.nil)))))))))))))) (.op 2 (.alt (.op 8 (.op 9 (.op 10 (.alt (.op 11 (.op 1 (.op 12 (.op 13 (.op 14 (.op 15 (.op 16 (.op 17 (.nil))))))))) (.op 1 (.op 11 (.op 12 (.op 13 (.op 14 (.op 15 (.op 16 (.op 17 (.nil))))))))))))) (.op 1 (.op 8 (.op 9 (.op 10 (.op 11 (.op 12 (.op 13 (.op 14 (.op 15 (.op 16 (.op 17 (.nil))))))))))))))))) (.alt (.op 1 (.alt (.op 6 (.alt (.op 8 (.op 9 (.op 10 (.alt (.op 11 (.op 12 (.op 13 (.alt (.op 14 (.op 2 (.op 15 (.op 16 (.op 17 (.nil)))))) (.op 2 (.op 14 (.op 15 (.op 16 (.op 17 (.nil)))))))))) (.op 2 (.op 11 (.op 12 (.op 13 (.op 14 (.op 15 (.op 16 (.op 17 (.nil))))))))))))) (.op 2 (.op 8 (.op 9 (.op 10 (.op 11 (.op 12 (.op 13 (.op 14 (.op 15 (.op 16 (.op 17 (.nil)))))))))))))) (.op 2 (.op 6 (.op 8 (.op 9 (.op 10 (.op 11 (.op 12 (.op 13 (.op 14 (.op 15 (.op 16 (.op 17 (.nil))))))))))))))) (.op 2 (.alt (.op 6 (.alt (.op 8 (.op 9 (.op 10 (.alt (.op 11 (.op 1 (.op 12 (.op 13 (.op 14 (.op 15 (.op 16 (.op 17 (.nil))))))))) (.op 1 (.op 11 (.op 12 (.op 13 (.op 14 (.op 15 (.op 16 (.op 17 (.nil))))))))))))) (.op 1 (.op 8 (.op 9 (.op 10 (.op 11 (.op 12 (.op 13 (.op 14 (.op 15 (.op 16 (.op 17 (.nil)))))))))))))) (.op 1 (.op 6 (.op 8 (.op 9 (.op 10 (.op 11 (.op 12 (.op 13 (.op 14 (.op 15 (.op 16 (.op 17 (.nil)))))))))))))))))) (.alt (.op 1 (.alt (.op 4 (.alt (.op 6 (.alt (.op 8 (.op 9 (.op 10 (.alt (.op 11 (.op 12 (.op 13 (.alt (.op 14 (.op 2 (.op 15 (.op 16 (.op 17 (.nil)))))) (.op 2 (.op 14 (.op 15 (.op 16 (.op 17 (.nil)))))))))) (.op 2 (.op 11 (.op 12 (.op 13 (.op 14 (.op 15 (.op 16 (.op 17 (.nil))))))))))))) (.op 2 (.op 8 (.op 9 (.op 10 (.op 11 (.op 12 (.op 13 (.op 14 (.op 15 (.op 16 (.op 17 (.nil)))))))))))))) (.op 2 (.op 6 (.op 8 (.op 9 (.op 10 (.op 11 (.op 12 (.op 13 (.op 14 (.op 15 (.op 16 (.op 17 (.nil))))))))))))))) (.op 2 (.op 4 (.op 6 (.op 8 (.op 9 (.op 10 (.op 11 (.op 12 (.op 13 (.op 14 (.op 15 (.op 16 (.op 17 (.nil)))))))))))))))) (.op 2 (.alt (.op 4 (.alt (.op 6 (.alt (.op 8 (.op 9 (.op 10 (.alt (.op 11 (.op 1 (.op 12 (.op 13 (.op 14 (.op 15 (.op 16 (.op 17 (.nil))))))))) (.op 1 (.op 11 (.op 12 (.op 13 (.op 14 (.op 15 (.op 16 (.op 17 (.nil))))))))))))) (.op 1 (.op 8 (.op 9 (.op 10 (.op 11 (.op 12 (.op 13 (.op 14 (.op 15 (.op 16 (.op 17 (.nil)))))))))))))) (.op 1 (.op 6 (.op 8 (.op 9 (.op 10 (.op 11 (.op 12 (.op 13 (.op 14 (.op 15 (.op 16 (.op 17 (.nil))))))))))))))) (.op 1 (.op 4 (.op 6 (.op 8 (.op 9 (.op 10 (.op 11 (.op 12 (.op 13 (.op 14 (.op 15 (.op 16 (.op 17 (.nil)))))))))))))))))))))) (by kernel_rfl) ?_;rw[<- hY1];refine⟨At0 (L+2),ld0 bY1,?_⟩;refine UV ?_ (UV ?_ ?_)
  ·refine cmo (fen 3 bY1) ?_;rintro e A ⟨rfl,hbA⟩;refine⟨hbA,?_⟩;have bA:=zst bY1 hbA;refine UV ?_ (UV ?_ ?_)
   ·refine cmo (fen 4 bA) ?_;rintro e B ⟨rfl,hbB⟩;refine⟨hbB,?_⟩;have bB:=zst bA hbB;refine UV ?_ (UV ?_ ?_)
    ·refine cmo (fen 5 bB) ?_;rintro e C ⟨rfl,hbC⟩;refine⟨hbC,?_⟩;have bC:=zst bB hbC;refine UV ?_ (UV ?_ ?_)
     ·refine s1 bC fun D hD=>?_;refine UV ?_ ?_
      ·refine⟨At0 (L+2),ld1 D hD.2,?_⟩;refine UV ?_ ?_
       ·refine s2 D hD fun F hF=>?_;refine⟨At0 (L+2),ld1 F hF.2,?_⟩;refine s3 F hF fun G hG=>?_;exact⟨(),(cvE rfl rfl),hG⟩
       ·refine⟨At0 (L+2),ld1 D hD.2,?_⟩;refine s2 D hD fun F hF=>?_;refine s3 F hF fun G hG=>?_;exact⟨(),(cvE rfl rfl),hG⟩
      ·refine⟨At0 (L+2),ld1 D hD.2,?_⟩;refine⟨At0 (L+2),ld1 D hD.2,?_⟩;refine s2 D hD fun F hF=>?_;refine s3 F hF fun G hG=>?_;exact⟨(),(cvE rfl rfl),hG⟩
     ·refine⟨At0 (L+2),ld0 bC,?_⟩;refine UV ?_ ?_
      ·refine s1 bC fun D hD=>?_;refine UV ?_ ?_
       ·refine s2 D hD fun F hF=>?_;refine⟨At0 (L+2),ld1 F hF.2,?_⟩;refine s3 F hF fun G hG=>?_;exact⟨(),(cvE rfl rfl),hG⟩
       ·refine⟨At0 (L+2),ld1 D hD.2,?_⟩;refine s2 D hD fun F hF=>?_;refine s3 F hF fun G hG=>?_;exact⟨(),(cvE rfl rfl),hG⟩
      ·refine⟨At0 (L+2),ld0 bC,?_⟩;refine s1 bC fun D hD=>?_;refine s2 D hD fun F hF=>?_;refine s3 F hF fun G hG=>?_;exact⟨(),(cvE rfl rfl),hG⟩
     ·refine⟨At0 (L+2),ld0 bC,?_⟩;refine UV ?_ ?_
      ·refine s1 bC fun D hD=>?_;refine⟨At0 (L+2),ld1 D hD.2,?_⟩;refine s2 D hD fun F hF=>?_;refine s3 F hF fun G hG=>?_;exact⟨(),(cvE rfl rfl),hG⟩
      ·refine⟨At0 (L+2),ld0 bC,?_⟩;refine s1 bC fun D hD=>?_;refine s2 D hD fun F hF=>?_;refine s3 F hF fun G hG=>?_;exact⟨(),(cvE rfl rfl),hG⟩
    ·refine⟨At0 (L+2),ld0 bB,?_⟩;refine UV ?_ ?_
     ·refine cmo (fen 5 bB) ?_;rintro e C ⟨rfl,hbC⟩;refine⟨hbC,?_⟩;have bC:=zst bB hbC;refine UV ?_ ?_
      ·refine s1 bC fun D hD=>?_;refine UV ?_ ?_
       ·refine s2 D hD fun F hF=>?_;refine⟨At0 (L+2),ld1 F hF.2,?_⟩;refine s3 F hF fun G hG=>?_;exact⟨(),(cvE rfl rfl),hG⟩
       ·refine⟨At0 (L+2),ld1 D hD.2,?_⟩;refine s2 D hD fun F hF=>?_;refine s3 F hF fun G hG=>?_;exact⟨(),(cvE rfl rfl),hG⟩
      ·refine⟨At0 (L+2),ld0 bC,?_⟩;refine s1 bC fun D hD=>?_;refine s2 D hD fun F hF=>?_;refine s3 F hF fun G hG=>?_;exact⟨(),(cvE rfl rfl),hG⟩
     ·refine⟨At0 (L+2),ld0 bB,?_⟩;refine cmo (fen 5 bB) ?_;rintro e C ⟨rfl,hbC⟩;refine⟨hbC,?_⟩;have bC:=zst bB hbC;refine s1 bC fun D hD=>?_;refine s2 D hD fun F hF=>?_;refine s3 F hF fun G hG=>?_;exact⟨(),(cvE rfl rfl),hG⟩
    ·refine⟨At0 (L+2),ld0 bB,?_⟩;refine UV ?_ ?_
     ·refine cmo (fen 5 bB) ?_;rintro e C ⟨rfl,hbC⟩;refine⟨hbC,?_⟩;have bC:=zst bB hbC;refine UV ?_ ?_
      ·refine s1 bC fun D hD=>?_;refine⟨At0 (L+2),ld1 D hD.2,?_⟩;refine s2 D hD fun F hF=>?_;refine s3 F hF fun G hG=>?_;exact⟨(),(cvE rfl rfl),hG⟩
      ·refine⟨At0 (L+2),ld0 bC,?_⟩;refine s1 bC fun D hD=>?_;refine s2 D hD fun F hF=>?_;refine s3 F hF fun G hG=>?_;exact⟨(),(cvE rfl rfl),hG⟩
     ·refine⟨At0 (L+2),ld0 bB,?_⟩;refine cmo (fen 5 bB) ?_;rintro e C ⟨rfl,hbC⟩;refine⟨hbC,?_⟩;have bC:=zst bB hbC;refine s1 bC fun D hD=>?_;refine s2 D hD fun F hF=>?_;refine s3 F hF fun G hG=>?_;exact⟨(),(cvE rfl rfl),hG⟩
   ·refine⟨At0 (L+2),ld0 bA,?_⟩;refine UV ?_ ?_
    ·refine cmo (fen 4 bA) ?_;rintro e B ⟨rfl,hbB⟩;refine⟨hbB,?_⟩;have bB:=zst bA hbB;refine UV ?_ ?_
     ·refine cmo (fen 5 bB) ?_;rintro e C ⟨rfl,hbC⟩;refine⟨hbC,?_⟩;have bC:=zst bB hbC;refine UV ?_ ?_
      ·refine s1 bC fun D hD=>?_;refine UV ?_ ?_
       ·refine s2 D hD fun F hF=>?_;refine⟨At0 (L+2),ld1 F hF.2,?_⟩;refine s3 F hF fun G hG=>?_;exact⟨(),(cvE rfl rfl),hG⟩
       ·refine⟨At0 (L+2),ld1 D hD.2,?_⟩;refine s2 D hD fun F hF=>?_;refine s3 F hF fun G hG=>?_;exact⟨(),(cvE rfl rfl),hG⟩
      ·refine⟨At0 (L+2),ld0 bC,?_⟩;refine s1 bC fun D hD=>?_;refine s2 D hD fun F hF=>?_;refine s3 F hF fun G hG=>?_;exact⟨(),(cvE rfl rfl),hG⟩
     ·refine⟨At0 (L+2),ld0 bB,?_⟩;refine cmo (fen 5 bB) ?_;rintro e C ⟨rfl,hbC⟩;refine⟨hbC,?_⟩;have bC:=zst bB hbC;refine s1 bC fun D hD=>?_;refine s2 D hD fun F hF=>?_;refine s3 F hF fun G hG=>?_;exact⟨(),(cvE rfl rfl),hG⟩
    ·refine⟨At0 (L+2),ld0 bA,?_⟩;refine cmo (fen 4 bA) ?_;rintro e B ⟨rfl,hbB⟩;refine⟨hbB,?_⟩;have bB:=zst bA hbB;refine cmo (fen 5 bB) ?_;rintro e C ⟨rfl,hbC⟩;refine⟨hbC,?_⟩;have bC:=zst bB hbC;refine s1 bC fun D hD=>?_;refine s2 D hD fun F hF=>?_;refine s3 F hF fun G hG=>?_;exact⟨(),(cvE rfl rfl),hG⟩
   ·refine⟨At0 (L+2),ld0 bA,?_⟩;refine UV ?_ ?_
    ·refine cmo (fen 4 bA) ?_;rintro e B ⟨rfl,hbB⟩;refine⟨hbB,?_⟩;have bB:=zst bA hbB;refine UV ?_ ?_
     ·refine cmo (fen 5 bB) ?_;rintro e C ⟨rfl,hbC⟩;refine⟨hbC,?_⟩;have bC:=zst bB hbC;refine UV ?_ ?_
      ·refine s1 bC fun D hD=>?_;refine⟨At0 (L+2),ld1 D hD.2,?_⟩;refine s2 D hD fun F hF=>?_;refine s3 F hF fun G hG=>?_;exact⟨(),(cvE rfl rfl),hG⟩
      ·refine⟨At0 (L+2),ld0 bC,?_⟩;refine s1 bC fun D hD=>?_;refine s2 D hD fun F hF=>?_;refine s3 F hF fun G hG=>?_;exact⟨(),(cvE rfl rfl),hG⟩
     ·refine⟨At0 (L+2),ld0 bB,?_⟩;refine cmo (fen 5 bB) ?_;rintro e C ⟨rfl,hbC⟩;refine⟨hbC,?_⟩;have bC:=zst bB hbC;refine s1 bC fun D hD=>?_;refine s2 D hD fun F hF=>?_;refine s3 F hF fun G hG=>?_;exact⟨(),(cvE rfl rfl),hG⟩
    ·refine⟨At0 (L+2),ld0 bA,?_⟩;refine cmo (fen 4 bA) ?_;rintro e B ⟨rfl,hbB⟩;refine⟨hbB,?_⟩;have bB:=zst bA hbB;refine cmo (fen 5 bB) ?_;rintro e C ⟨rfl,hbC⟩;refine⟨hbC,?_⟩;have bC:=zst bB hbC;refine s1 bC fun D hD=>?_;refine s2 D hD fun F hF=>?_;refine s3 F hF fun G hG=>?_;exact⟨(),(cvE rfl rfl),hG⟩
  ·refine⟨At0 (L+2),ld0 bY1,?_⟩;refine UV ?_ ?_
   ·refine cmo (fen 3 bY1) ?_;rintro e A ⟨rfl,hbA⟩;refine⟨hbA,?_⟩;have bA:=zst bY1 hbA;refine UV ?_ ?_
    ·refine cmo (fen 4 bA) ?_;rintro e B ⟨rfl,hbB⟩;refine⟨hbB,?_⟩;have bB:=zst bA hbB;refine UV ?_ ?_
     ·refine cmo (fen 5 bB) ?_;rintro e C ⟨rfl,hbC⟩;refine⟨hbC,?_⟩;have bC:=zst bB hbC;refine UV ?_ ?_
      ·refine s1 bC fun D hD=>?_;refine UV ?_ ?_
       ·refine s2 D hD fun F hF=>?_;refine⟨At0 (L+2),ld1 F hF.2,?_⟩;refine s3 F hF fun G hG=>?_;exact⟨(),(cvE rfl rfl),hG⟩
       ·refine⟨At0 (L+2),ld1 D hD.2,?_⟩;refine s2 D hD fun F hF=>?_;refine s3 F hF fun G hG=>?_;exact⟨(),(cvE rfl rfl),hG⟩
      ·refine⟨At0 (L+2),ld0 bC,?_⟩;refine s1 bC fun D hD=>?_;refine s2 D hD fun F hF=>?_;refine s3 F hF fun G hG=>?_;exact⟨(),(cvE rfl rfl),hG⟩
     ·refine⟨At0 (L+2),ld0 bB,?_⟩;refine cmo (fen 5 bB) ?_;rintro e C ⟨rfl,hbC⟩;refine⟨hbC,?_⟩;have bC:=zst bB hbC;refine s1 bC fun D hD=>?_;refine s2 D hD fun F hF=>?_;refine s3 F hF fun G hG=>?_;exact⟨(),(cvE rfl rfl),hG⟩
    ·refine⟨At0 (L+2),ld0 bA,?_⟩;refine cmo (fen 4 bA) ?_;rintro e B ⟨rfl,hbB⟩;refine⟨hbB,?_⟩;have bB:=zst bA hbB;refine cmo (fen 5 bB) ?_;rintro e C ⟨rfl,hbC⟩;refine⟨hbC,?_⟩;have bC:=zst bB hbC;refine s1 bC fun D hD=>?_;refine s2 D hD fun F hF=>?_;refine s3 F hF fun G hG=>?_;exact⟨(),(cvE rfl rfl),hG⟩
   ·refine⟨At0 (L+2),ld0 bY1,?_⟩;refine cmo (fen 3 bY1) ?_;rintro e A ⟨rfl,hbA⟩;refine⟨hbA,?_⟩;have bA:=zst bY1 hbA;refine cmo (fen 4 bA) ?_;rintro e B ⟨rfl,hbB⟩;refine⟨hbB,?_⟩;have bB:=zst bA hbB;refine cmo (fen 5 bB) ?_;rintro e C ⟨rfl,hbC⟩;refine⟨hbC,?_⟩;have bC:=zst bB hbC;refine s1 bC fun D hD=>?_;refine s2 D hD fun F hF=>?_;refine s3 F hF fun G hG=>?_;exact⟨(),(cvE rfl rfl),hG⟩
  ·refine⟨At0 (L+2),ld0 bY1,?_⟩;refine UV ?_ ?_
   ·refine cmo (fen 3 bY1) ?_;rintro e A ⟨rfl,hbA⟩;refine⟨hbA,?_⟩;have bA:=zst bY1 hbA;refine UV ?_ ?_
    ·refine cmo (fen 4 bA) ?_;rintro e B ⟨rfl,hbB⟩;refine⟨hbB,?_⟩;have bB:=zst bA hbB;refine UV ?_ ?_
     ·refine cmo (fen 5 bB) ?_;rintro e C ⟨rfl,hbC⟩;refine⟨hbC,?_⟩;have bC:=zst bB hbC;refine UV ?_ ?_
      ·refine s1 bC fun D hD=>?_;refine⟨At0 (L+2),ld1 D hD.2,?_⟩;refine s2 D hD fun F hF=>?_;refine s3 F hF fun G hG=>?_;exact⟨(),(cvE rfl rfl),hG⟩
      ·refine⟨At0 (L+2),ld0 bC,?_⟩;refine s1 bC fun D hD=>?_;refine s2 D hD fun F hF=>?_;refine s3 F hF fun G hG=>?_;exact⟨(),(cvE rfl rfl),hG⟩
     ·refine⟨At0 (L+2),ld0 bB,?_⟩;refine cmo (fen 5 bB) ?_;rintro e C ⟨rfl,hbC⟩;refine⟨hbC,?_⟩;have bC:=zst bB hbC;refine s1 bC fun D hD=>?_;refine s2 D hD fun F hF=>?_;refine s3 F hF fun G hG=>?_;exact⟨(),(cvE rfl rfl),hG⟩
    ·refine⟨At0 (L+2),ld0 bA,?_⟩;refine cmo (fen 4 bA) ?_;rintro e B ⟨rfl,hbB⟩;refine⟨hbB,?_⟩;have bB:=zst bA hbB;refine cmo (fen 5 bB) ?_;rintro e C ⟨rfl,hbC⟩;refine⟨hbC,?_⟩;have bC:=zst bB hbC;refine s1 bC fun D hD=>?_;refine s2 D hD fun F hF=>?_;refine s3 F hF fun G hG=>?_;exact⟨(),(cvE rfl rfl),hG⟩
   ·refine⟨At0 (L+2),ld0 bY1,?_⟩;refine cmo (fen 3 bY1) ?_;rintro e A ⟨rfl,hbA⟩;refine⟨hbA,?_⟩;have bA:=zst bY1 hbA;refine cmo (fen 4 bA) ?_;rintro e B ⟨rfl,hbB⟩;refine⟨hbB,?_⟩;have bB:=zst bA hbB;refine cmo (fen 5 bB) ?_;rintro e C ⟨rfl,hbC⟩;refine⟨hbC,?_⟩;have bC:=zst bB hbC;refine s1 bC fun D hD=>?_;refine s2 D hD fun F hF=>?_;refine s3 F hF fun G hG=>?_;exact⟨(),(cvE rfl rfl),hG⟩
 clear fS fP sY hbwY fY fM f0 hwX fX sX hbX hbY;clear X Y;rintro _ Z ⟨hS,fP,fM,f0,fZ,sZ,hbZ⟩;refine⟨Nat,fun R=>⟨[(1,At0 b),(2,At0 L),(4,At0 (L+1)),(5,At0 (L+3)),(6,At0 R)],[]⟩,fun R Y=>Y.heap[R]?=some (.cells zb2.toArray 316 (0,0))/\Bw Z Y,?_,?_⟩
 ·refine cmo zpP ?_;rintro e Y ⟨rfl,hbY⟩;refine zr (X:=Y) (v := .agg zb2.toArray) zs5 rfl rfl rfl fun V hbV fV sV=>?_;exact⟨Y.heap.size,(cvE rfl rfl),fV,(zst hbY hbV)⟩
 rintro R Y ⟨fR,hbY⟩;have hbwY:=zst hbZ hbY;replace hS:=hS.below hbY;replace fP:=zb hbY fP;replace fM:=zb hbY fM;replace f0:=zb hbY f0;replace fZ:=zb hbY fZ;refine⟨Unit,fun _=>⟨[(4,At0 (L+1))],[]⟩,fun _ V=>zQ V (L+1) (zaU m.toNat x)/\Bw w V,?_,?_⟩
 ·refine⟨_,zc (za fZ) (i:=0) rfl,?_⟩;refine cmo (zks (n:=x.ev.length) (caps := #[At0 (L+3),At0 R,At0 L]) (g:=217) (p:=fun a d=>zl x.po a d&&(zcf x a&&(zcf x d&&zd5 m.toNat x (zL x 3) (zL x 4) (zL x 5) a d))) (by omega) (by kernel_rfl) fun a d U ha hd hb=>zqg hk (hS.below hb) (zb hb fP) (zb hb fR) (zb hb fM) ha hd) ?_;rintro e V ⟨rfl,hbV⟩;replace f0:=zb hbV f0;refine zo (v := .agg (zd (zaU m.toNat x)).toArray) k76 f0 (ze _) (ze _) (zD _) ?_;exact⟨(),(cvE rfl rfl),zk f0,zh ((zst hbwY hbV)) (by omega) _⟩
 rintro _ V ⟨f0,hbV⟩;exact⟨zd (zaU m.toNat x),ze _,za f0,rfl,hbV⟩
end
section
variable{b c:Nat}{x:ExD}{q:OA}{w:Wd}
theorem zqf{m:UInt8}:Calls PG 82 #[u8 m] w fun e w'=>e = .returned (.bool (zaP m.toNat))/\w=w':=by
 refine zC 9 [u8 m] Tryz.func82 ?_;refine biE (fun h=>?_) fun h=>?_
 ·have h:(1:Int)<=(m.toNat:Int):=dT h;refine⟨rb ?_,rfl⟩;unfold zaP;rw[Uh (by omega:1<=m.toNat),Un];exact Qw.2 (by show(m.toNat:Int)<=6↔_;omega)
 ·have h:¬(1:Int)<=(m.toNat:Int):=dF h;refine⟨rb ?_,rfl⟩;unfold zaP;rw[QX (by omega:¬1<=m.toNat)];rfl
theorem zqx{r:RelD}(hn:r.n=x.ev.length)(h48:x.ev.length<=48):zG (zgs x r).to:=by
 unfold zgs;exact zdU (by omega)
theorem zhK{X:Wd}{g:Nat}{a b c:RelD}(h:X.heap[g]?=some (.cells (zd a++(zd b++zd c)).toArray 76 (0,0))):SlR zrL X (some ⟨g,0,none⟩) [a,b,c] :=
 SlR.of_cells (hlt h) (by
  have:[a,b,c].flatMap zrL.enc=zd a++(zd b++zd c):=by
   rw[KK,KK,KK,Qg,QA];rfl
  rw[this];exact za h)
theorem zo7{m:UInt8}(hk:zaP m.toNat=true)(fx:ExH w b x q c)(hv:ExW w x q)(hrf:x.rf.n=x.ev.length)(hT:Tz64M w):CB 83 #[u8 m,At0 b] w (u8 (UInt8.ofNat (zce m.toNat x))):=by
 refine qg 80 [u8 m,At0 b] (.c .p (.c .p (.c .p (.c .p (.c .p (.c .p (.c .p (.c .p (.c .p (.c .p .p)))))))))) Tryz.func83 ?_;obtain⟨L,hL⟩:=nm (w.heap.size);have hn:=hv.n;obtain⟨fw,frw⟩:=zoF hv hT;have hba:∀(A:Wd) (o:Obj),Bw A (A.alloc o):=fun A o=>(zba _ _);refine⟨Unit,fun _=>⟨[(0,u8 m),(3,At0 L)],[]⟩,fun _ X=>X.heap[L]?=some (.cells #[At0 b] 134 (0,0))/\Bw w X,⟨(),⟨.cons rfl (.cons (by rw[hL];rfl) .nil),rfl⟩,by rw[hL];exact zw w _,hba w _⟩,?_⟩;rintro _ X ⟨fB,hbX⟩;refine⟨Nat,fun F=>⟨[(0,u8 m),(3,At0 L),(5,At0 F)],[]⟩,fun F Y=>zQ Y F (frM x)/\Y.heap[L]?=some (.cells #[At0 b] 134 (0,0))/\Bw w Y,?_,?_⟩
 ·refine⟨_,zc (za fB) (i:=0) rfl,cmo (ztH (zb hbX fx) (hv.below hbX) (hT.below hbX)) ?_⟩;rintro e Y ⟨rfl,hbY⟩;refine zr (X:=Y) (v := .agg (zd (frM x)).toArray) k76 (ze _) (by kernel_rfl) (zD _) fun V hbV fV sV=>?_;have b1:=zst hbY hbV;exact⟨Y.heap.size,(cvE rfl rfl),fV,zb b1 fB,(zst hbX b1)⟩
 clear fB hbX;clear X;rintro F X ⟨fF,fB,hbX⟩;refine⟨Nat,fun G=>⟨[(0,u8 m),(3,At0 L),(5,At0 F),(6,At0 G)],[]⟩,fun G Y=>zQ Y G (zbe x)/\zQ Y F (frM x)/\Y.heap[L]?=some (.cells #[At0 b] 134 (0,0))/\Bw w Y,?_,?_⟩
 ·refine⟨_,zc (za fB) (i:=0) rfl,?_⟩;have fX:=zb hbX fx;have hvX:=hv.below hbX;refine⟨_,zc (za fX) (i:=0) rfl,cmo (zks (n:=x.ev.length) (caps := #[At0 L]) (g:=156) (p:=fun a d=>zl x.po a d&&za4 x a d) (by omega) (by kernel_rfl) fun a d Z ha hd hb=>zna (zb hb fB) (zb hb fX) (hvX.below hb) ha hd) ?_⟩;rintro e Y ⟨rfl,hbY⟩;refine zr (X:=Y) (v := .agg (zd (zbe x)).toArray) k76 (ze _) (by kernel_rfl) (zD _) fun V hbV fV sV=>?_;have b1:=zst hbY hbV;exact⟨Y.heap.size,(cvE rfl rfl),fV,zb b1 fF,zb b1 fB,(zst hbX b1)⟩
 clear fF fB hbX;clear X;rintro G X ⟨fG,fF,fB,hbX⟩;have lw:zG (zbe x).to:=zdU (by omega);have hbr:zce m.toNat x=if zaZ (qj (zbe x) [x.rf,x.co,frM x])=true then(if zbG (zaL x.rm (q9 (frM x) x.co).1).1=true then(if m.toNat=1 then 0 else if zaZ (qj (zaU m.toNat x) [if m.toNat=2 then x.rf else zgs x x.rf,x.co,frM x])=true then 0 else 3) else 2) else 1:=rfl
 refine⟨Unit,fun _=>⟨[(0,u8 m),(3,At0 L),(5,At0 F)],[]⟩,fun _ Y=>zaZ (qj (zbe x) [x.rf,x.co,frM x])=true/\zQ Y F (frM x)/\Y.heap[L]?=some (.cells #[At0 b] 134 (0,0))/\Bw w Y,?_,?_⟩
 ·have dX:Bw X X.drew:=(UR _ _).drew;have fX:=hdr (zb hbX fx);refine DrawE.ord [] [0,1,2,3,4,5,6,7,8,9,10,11,12,13] (by kernel_rfl) ⟨zd (zbe x),ze _,za (hdr fG),hlt (hdr fG),_,zc (za (hdr fB)) (i:=0) rfl,zd x.rf,ze _,q6 fX (i:=1) (by decide) rfl,hlt fX,_,zc (za (hdr fB)) (i:=0) rfl,zd x.co,ze _,q6 fX (i:=2) (by decide) rfl,hlt fX,zd (frM x),ze _,za (hdr fF),hlt (hdr fF),⟨by decide,by decide,rfl⟩,zd x.rf++(zd x.co++zd (frM x)),by kernel_rfl,?_⟩;refine⟨hba _ _,?_⟩;have b1:=dX.alloc (UN _) (.cells (zd x.rf++(zd x.co++zd (frM x))).toArray 76);have hl:=zhK (zw X.drew (.cells (zd x.rf++(zd x.co++zd (frM x))).toArray 76));have hw3:∀o∈[x.rf,x.co,frM x],zG o.to:=by
   simp only[Ur,Qm,Ga,forall_eq_or_imp,forall_eq];exact⟨hv.rf,hv.co,frw⟩
  refine cmo (zhI (l:=[x.rf,x.co,frM x]) lw hl hw3 (JN rfl)) ?_;rintro e Y ⟨rfl,hbY⟩;refine⟨hbY,?_⟩;have b2:=zst b1 hbY;refine cmo (zc3 (zb1 lw hw3) (hT.below ((zst hbX b2)))) ?_;rintro e Z ⟨rfl,hbZ⟩;refine⟨hbZ,?_⟩;have b3:=zst b2 hbZ;have b4:=zst hbX b3;refine biE (fun h=>?_) fun h=>?_
  ·have h:zaZ (qj (zbe x) [x.rf,x.co,frM x])=false:=by
    have h:(!zaZ (qj (zbe x) [x.rf,x.co,frM x]))=true:=h;simpa using h
   rw[h,Gc (by decide)] at hbr;rw[hbr];exact⟨rfl,b4⟩
  ·have h:zaZ (qj (zbe x) [x.rf,x.co,frM x])=true:=by
    have h:(!zaZ (qj (zbe x) [x.rf,x.co,frM x]))=false:=h;simpa using h
   exact⟨(),(cvE rfl rfl),h,zb b3 fF,zb b3 fB,b4⟩
 clear fG fF fB hbX;clear X;rintro _ X ⟨h1,fF,fB,hbX⟩;rw[Gd h1] at hbr;clear h1 lw G;refine⟨Nat,fun G=>⟨[(0,u8 m),(3,At0 L),(5,At0 F),(7,At0 G)],[]⟩,fun G Y=>zQ Y G (q9 (frM x) x.co).1/\zQ Y F (frM x)/\Y.heap[L]?=some (.cells #[At0 b] 134 (0,0))/\Bw w Y,?_,?_⟩
 ·have dX:Bw X X.drew:=(UR _ _).drew;have fX:=hdr (zb hbX fx);have put:∀(W:Wd) (b3:Nat),Bw X W->zQ W b3 zz->X.heap.size<=b3->∀{K:Wd->Prop},(∀Y,(zQ Y b3 (q9 (frM x) x.co).1/\zQ Y F (frM x)/\Y.heap[L]?=some (.cells #[At0 b] 134 (0,0))/\Bw w Y)->K Y) ->
    SatR ((storeVar 76 ⟨b3,0,none⟩ (.agg (zd (q9 (frM x) x.co).1).toArray)).run PG W) fun _ w'=>K w':=by
   intro W b3 hW f3 g3 K k;refine zo (v := .agg (zd (q9 (frM x) x.co).1).toArray) k76 f3 (ze _) (ze _) (zD _) ?_;have hF2:=hlt fF;have hL2:=hlt fB;exact k _ ⟨zk f3,(zq (by omega)).trans (zb hW fF),(zq (by omega)).trans (zb hW fB),zh ((zst hbX hW)) (by have:=hbX.size;omega) _⟩
  refine DrawE.treeQ [10] (.op 0 (.op 1 (.op 2 (.op 3 (.op 4 (.alt (.op 9 (.op 5 (.op 6 (.op 7 (.op 8 (.op 10 (.op 11 .nil))))))) (.op 5 (.op 6 (.op 7 (.op 8 (.op 9 (.op 10 (.op 11 .nil))))))))))))) (by kernel_rfl) ⟨zd (frM x),ze _,za (hdr fF),hlt (hdr fF),_,zc (za (hdr fB)) (i:=0) rfl,zd x.co,ze _,q6 fX (i:=2) (by decide) rfl,hlt fX,UV ?_ ?_⟩
  ·refine⟨hba _ _,?_⟩;have b1:=dX.alloc (UN _) (.cells (zd zz).toArray 76);refine cmo (zbH frw hv.co (hT.below ((zst hbX b1)))) ?_;rintro e Y ⟨rfl,hbY⟩;exact⟨hbY,put Y X.heap.size ((zst b1 hbY)) (zb hbY (zw X.drew _)) (UN _) (fun Y hY=>⟨X.heap.size,(cvE rfl rfl),hY⟩)⟩
  ·refine cmo (zbH frw hv.co (hT.below ((zst hbX dX)))) ?_;rintro e Y ⟨rfl,hbY⟩;refine⟨hbY,?_⟩;have b1:=zst dX hbY;exact⟨hba _ _,put _ Y.heap.size (b1.alloc b1.size _) (zw Y _) b1.size (fun V hV=>⟨Y.heap.size,(cvE rfl rfl),hV⟩)⟩
 clear fF fB hbX;clear X;rintro G X ⟨fG,fF,fB,hbX⟩;have tw:=zcp (a:=frM x) (b:=x.co) frw hv.co;refine⟨Nat,fun H=>⟨[(0,u8 m),(3,At0 L),(5,At0 F),(9,At0 H)],[]⟩,fun H Y=>zQ Y H (zaL x.rm (q9 (frM x) x.co).1).1/\zQ Y F (frM x)/\Y.heap[L]?=some (.cells #[At0 b] 134 (0,0))/\Bw w Y,?_,?_⟩
 ·have dX:Bw X X.drew:=(UR _ _).drew;have fX:=hdr (zb hbX fx);obtain⟨tb,htb⟩:=nm ((q9 (frM x) x.co).1);rw[<- htb] at fG tw ⊢;have put:∀(W:Wd) (b3:Nat),Bw X W->zQ W b3 zz->X.heap.size<=b3->∀{K:Wd->Prop},(∀Y,(zQ Y b3 (zaL x.rm tb).1/\zQ Y F (frM x)/\Y.heap[L]?=some (.cells #[At0 b] 134 (0,0))/\Bw w Y)->K Y) ->
    SatR ((storeVar 76 ⟨b3,0,none⟩ (.agg (zd (zaL x.rm tb).1).toArray)).run PG W) fun _ w'=>K w':=by
   intro W b3 hW f3 g3 K k;refine zo (v := .agg (zd (zaL x.rm tb).1).toArray) k76 f3 (ze _) (ze _) (zD _) ?_;have hF2:=hlt fF;have hL2:=hlt fB;exact k _ ⟨zk f3,(zq (by omega)).trans (zb hW fF),(zq (by omega)).trans (zb hW fB),zh ((zst hbX hW)) (by have:=hbX.size;omega) _⟩
  refine DrawE.treeQ [10] (.op 0 (.op 1 (.op 2 (.op 3 (.op 4 (.alt (.op 9 (.op 5 (.op 6 (.op 7 (.op 8 (.op 10 (.op 11 .nil))))))) (.op 5 (.op 6 (.op 7 (.op 8 (.op 9 (.op 10 (.op 11 .nil))))))))))))) (by kernel_rfl) ⟨_,zc (za (hdr fB)) (i:=0) rfl,zd x.rm,ze _,q6 fX (i:=5) (by decide) rfl,hlt fX,zd tb,ze _,za (hdr fG),hlt (hdr fG),UV ?_ ?_⟩
  ·refine⟨hba _ _,?_⟩;have b1:=dX.alloc (UN _) (.cells (zd zz).toArray 76);refine cmo (zpu hv.rm tw) ?_;rintro e Y ⟨rfl,hbY⟩;exact⟨hbY,put Y X.heap.size ((zst b1 hbY)) (zb hbY (zw X.drew _)) (UN _) (fun Y hY=>⟨X.heap.size,(cvE rfl rfl),hY⟩)⟩
  ·refine cmo (zpu hv.rm tw) ?_;rintro e Y ⟨rfl,hbY⟩;refine⟨hbY,?_⟩;have b1:=zst dX hbY;exact⟨hba _ _,put _ Y.heap.size (b1.alloc b1.size _) (zw Y _) b1.size (fun V hV=>⟨Y.heap.size,(cvE rfl rfl),hV⟩)⟩
 clear fG fF fB hbX;clear X G;rintro H X ⟨fH,fF,fB,hbX⟩;refine⟨Unit,fun _=>⟨[(0,u8 m),(3,At0 L),(5,At0 F)],[]⟩,fun _ Y=>zbG (zaL x.rm (q9 (frM x) x.co).1).1=true/\zQ Y F (frM x)/\Y.heap[L]?=some (.cells #[At0 b] 134 (0,0))/\Bw w Y,?_,?_⟩
 ·refine⟨zd (zaL x.rm (q9 (frM x) x.co).1).1,ze _,za fH,hlt fH,cmo (zrg (zo8 hv.rm)) ?_⟩;rintro e Y ⟨rfl,hbY⟩;have b4:=zst hbX hbY;refine biE (fun h=>?_) fun h=>?_
  ·have h:zbG (zaL x.rm (q9 (frM x) x.co).1).1=false:=by
    have h:(!zbG (zaL x.rm (q9 (frM x) x.co).1).1)=true:=h;simpa using h
   rw[h,Gc (by decide)] at hbr;rw[hbr];exact⟨rfl,b4⟩
  ·have h:zbG (zaL x.rm (q9 (frM x) x.co).1).1=true:=by
    have h:(!zbG (zaL x.rm (q9 (frM x) x.co).1).1)=false:=h;simpa using h
   exact⟨(),(cvE rfl rfl),h,zb hbY fF,zb hbY fB,b4⟩
 clear fH fF fB hbX tw;clear X H;rintro _ X ⟨h1,fF,fB,hbX⟩;rw[Gd h1] at hbr;clear h1;refine⟨Unit,fun _=>⟨[(0,u8 m),(3,At0 L),(5,At0 F)],[]⟩,fun _ Y=>m.toNat≠1/\X=Y,?_,?_⟩
 ·refine biE (fun h=>?_) fun h=>?_
  ·have h:(m.toNat:Int)=1:=dT h;rw[Gd (by omega)] at hbr;rw[hbr];exact⟨rfl,hbX⟩
  ·have h:¬(m.toNat:Int)=1:=dF h;exact⟨(),(cvE rfl rfl),by omega,rfl⟩
 rintro _ _ ⟨h1,rfl⟩;rw[Gc h1] at hbr;clear h1;refine⟨Nat,fun G=>⟨[(0,u8 m),(3,At0 L),(5,At0 F),(11,At0 G)],[]⟩,fun G Y=>G≠F/\G≠L/\w.heap.size<=G/\zQ Y G x.rf/\zQ Y F (frM x)/\Y.heap[L]?=some (.cells #[At0 b] 134 (0,0))/\Bw w Y,?_,?_⟩
 ·have fX:=zb hbX fx;refine⟨_,zc (za fB) (i:=0) rfl,zd x.rf,ze _,q6 fX (i:=1) (by decide) rfl,hlt fX,zr (X:=X) (v := .agg (zd x.rf).toArray) k76 (ze _) (by kernel_rfl) (zD _) fun V hbV fV sV=>?_⟩;have hF2:=hlt fF;have hL2:=hlt fB;exact⟨X.heap.size,(cvE rfl rfl),by omega,by omega,hbX.size,fV,zb hbV fF,zb hbV fB,(zst hbX hbV)⟩
 clear fF fB hbX;clear X;rintro G X ⟨hGF,hGL,hGw,fG,fF,fB,hbX⟩;obtain⟨rfx,hrfx⟩:=nm (if m.toNat=2 then x.rf else zgs x x.rf);have rfw:zG rfx.to:=by
  rw[hrfx]
  split
  ·exact hv.rf
  ·exact zqx hrf (by omega)
 rw[<- hrfx] at hbr;refine⟨Unit,fun _=>⟨[(0,u8 m),(3,At0 L),(5,At0 F),(11,At0 G)],[]⟩,fun _ Y=>zQ Y G rfx/\zQ Y F (frM x)/\Y.heap[L]?=some (.cells #[At0 b] 134 (0,0))/\Bw w Y,?_,?_⟩
 ·have fX:=zb hbX fx;have hvX:=hv.below hbX;refine biE (fun h=>?_) fun h=>?_
  ·have h:¬m.toNat=2:=by
    have h:(!decide ((m.toNat:Int)=2))=true:=h;have h:¬(m.toNat:Int)=2:=(by simpa using h);omega
   rw[Gc h] at hrfx;refine⟨_,zc (za fB) (i:=0) rfl,zd x.rf,ze _,za fG,hlt fG,cmo (zs6 fX hvX hv.rf hrf) ?_⟩;rintro e Y ⟨rfl,hbY⟩;rw[<- hrfx];exact zo (v := .agg (zd rfx).toArray) k76 (zb hbY fG) (ze _) (ze _) (zD _) ⟨(),(cvE rfl rfl),zk (zb hbY fG),(zq (by omega)).trans (zb hbY fF),(zq (by omega)).trans (zb hbY fB),zh ((zst hbX hbY)) hGw _⟩
  ·have h:m.toNat=2:=by
    have h:(!decide ((m.toNat:Int)=2))=false:=h;have h:(m.toNat:Int)=2:=(by simpa using h);omega
   rw[Gd h] at hrfx;rw[hrfx];exact⟨(),(cvE rfl rfl),fG,fF,fB,hbX⟩
 clear fG fF fB hbX hrfx;clear X;rintro _ X ⟨fG,fF,fB,hbX⟩;have kw:zG (zaU m.toNat x).to:=zdU (by omega);have dX:Bw X X.drew:=(UR _ _).drew;have hbD:=zst hbX dX;have hw3:∀o∈[rfx,x.co,frM x],zG o.to:=by
  simp only[Ur,Qm,Ga,forall_eq_or_imp,forall_eq];exact⟨rfw,hv.co,frw⟩
 have fD:=hdr (zb hbX fx);have hk0:∀{Y:Wd},Bw X Y->CB 165 #[u8 m,At0 b] Y (.agg (zd (zaU m.toNat x)).toArray):=fun{Y} hY =>
  have h2:=zst hbX hY
  zrX hk (zb h2 fx) (hv.below h2) (hT.below h2)
 refine DrawE.treeQ [] (.op 0 (.op 1 (.op 3 (.op 4 (.op 5 (.op 6 (.op 7 (.op 8 (.alt (.op 9 (.op 2 (.op 10 (.op 11 (.op 12 .nil))))) (.op 2 (.op 9 (.op 10 (.op 11 (.op 12 .nil)))))))))))))) (by kernel_rfl) ⟨_,zc (za (hdr fB)) (i:=0) rfl,zd rfx,ze _,za (hdr fG),hlt (hdr fG),_,zc (za (hdr fB)) (i:=0) rfl,zd x.co,ze _,q6 fD (i:=2) (by decide) rfl,hlt fD,zd (frM x),ze _,za (hdr fF),hlt (hdr fF),UV ?_ ?_⟩
 ·refine⟨⟨by decide,by decide,rfl⟩,zd rfx++(zd x.co++zd (frM x)),by kernel_rfl,?_⟩;refine⟨hba _ _,?_⟩;have b1:=dX.alloc (UN _) (.cells (zd rfx++(zd x.co++zd (frM x))).toArray 76);have hl:=zhK (zw X.drew (.cells (zd rfx++(zd x.co++zd (frM x))).toArray 76));refine cmo (hk0 b1) ?_;rintro e Y ⟨rfl,hbY⟩;refine⟨hbY,?_⟩;have b2:=zst b1 hbY;refine cmo (zhI (l:=[rfx,x.co,frM x]) kw (hl.below hbY) hw3 (JN rfl)) ?_;rintro e V ⟨rfl,hbV⟩;refine⟨hbV,?_⟩;have b3:=zst b2 hbV;refine cmo (zc3 (zb1 kw hw3) (hT.below ((zst hbX b3)))) ?_;rintro e Z ⟨rfl,hbZ⟩;refine⟨hbZ,?_⟩;have b5:=hbX.trans (((zst b3 hbZ)).mono hbX.size);refine biE (fun h=>?_) fun h=>?_
  ·have h:zaZ (qj (zaU m.toNat x) [rfx,x.co,frM x])=false:=by
    have h:(!zaZ (qj (zaU m.toNat x) [rfx,x.co,frM x]))=true:=h;simpa using h
   rw[h,Gc (by decide)] at hbr;rw[hbr];exact⟨rfl,b5⟩
  ·have h:zaZ (qj (zaU m.toNat x) [rfx,x.co,frM x])=true:=by
    have h:(!zaZ (qj (zaU m.toNat x) [rfx,x.co,frM x]))=false:=h;simpa using h
   rw[h,Gd rfl] at hbr;rw[hbr];exact⟨rfl,b5⟩
 ·refine cmo (hk0 dX) ?_;rintro e Y ⟨rfl,hbY⟩;refine⟨hbY,?_⟩;have b1:=zst dX hbY;refine⟨⟨by decide,by decide,rfl⟩,zd rfx++(zd x.co++zd (frM x)),by kernel_rfl,?_⟩;refine⟨hba _ _,?_⟩;have b2:=b1.alloc b1.size (.cells (zd rfx++(zd x.co++zd (frM x))).toArray 76);have hl:=zhK (zw Y (.cells (zd rfx++(zd x.co++zd (frM x))).toArray 76));refine cmo (zhI (l:=[rfx,x.co,frM x]) kw hl hw3 (JN rfl)) ?_;rintro e V ⟨rfl,hbV⟩;refine⟨hbV,?_⟩;have b3:=zst b2 hbV;refine cmo (zc3 (zb1 kw hw3) (hT.below ((zst hbX b3)))) ?_;rintro e Z ⟨rfl,hbZ⟩;refine⟨hbZ,?_⟩;have b5:=hbX.trans (((zst b3 hbZ)).mono hbX.size);refine biE (fun h=>?_) fun h=>?_
  ·have h:zaZ (qj (zaU m.toNat x) [rfx,x.co,frM x])=false:=by
    have h:(!zaZ (qj (zaU m.toNat x) [rfx,x.co,frM x]))=true:=h;simpa using h
   rw[h,Gc (by decide)] at hbr;rw[hbr];exact⟨rfl,b5⟩
  ·have h:zaZ (qj (zaU m.toNat x) [rfx,x.co,frM x])=true:=by
    have h:(!zaZ (qj (zaU m.toNat x) [rfx,x.co,frM x]))=false:=h;simpa using h
   rw[h,Gd rfl] at hbr;rw[hbr];exact⟨rfl,b5⟩
theorem znY(h:zao x=true):x.rf.n=x.ev.length:=by
 unfold zao za0 at h;simp only[Up,List.all_nil,Bool.and_true,bAT,dE] at h;obtain⟨_,_,_,_,⟨_,a,_⟩,_⟩:=h;exact a.1
theorem zp5{A B C:Bool}{m:Nat}:(if A=true then(if B=true then(if m=1 then 0 else if C=true then 0 else 3) else 2) else 1)<=3:=by
 by_cases h:m=1 <;> cases A <;> cases B <;> cases C <;> simp[h]
theorem znb{m:Nat}{x:ExD}:decide ((((UInt8.ofNat (zce m x)).toNat:Nat):Int)=0)=decide (zce m x=0):=by
 have h:zce m x<=3:=by
  unfold zce;exact zp5
 refine Qw.2 ?_;rw[KB];omega
theorem zrf{m:UInt8}(hv:ExW w x q)(hT:Tz64M w):CB 44 #[u8 m,.agg (exC x q c).toArray] w (.bool (zeJ m.toNat x)):=by
 refine qg 16 [u8 m,.agg (exC x q c).toArray] (.c .p .p) Tryz.func44 ?_;obtain⟨L,k⟩:=nm (w.heap.size);refine⟨Unit,fun _=>⟨[(0,u8 m),(3,At0 L)],[]⟩,fun _ X=>ExH X L x q c/\Bw w X,⟨(),⟨.cons rfl (.cons (by rw[k];rfl) .nil),rfl⟩,by rw[k];exact zw w _,(zba w _)⟩,?_⟩;rintro _ X ⟨i,a⟩;refine cmo zqf ?_;rintro e _ ⟨rfl,rfl⟩;refine biE (fun f=>?_) fun f=>?_
 ·have f:zaP m.toNat=true:=f;refine⟨exC x q c,zM _ _ _,za i,hlt i,cmo (zpl (hv.below a) (hT.below a)) ?_⟩;rintro e Y ⟨rfl,g⟩;have h:=zst a g;refine biE (fun d=>?_) fun d=>?_
  ·have d:zao x=true:=d;refine cmo (zo7 f (zb g i) (hv.below h) (znY d) (hT.below h)) ?_;rintro e Z ⟨rfl,j⟩;refine⟨rb ?_,(zst h j)⟩;unfold zeJ;rw[f,d];exact znb
  ·have d:zao x=false:=d;exact⟨rb (by unfold zeJ;rw[d];cases zaP m.toNat <;> rfl),h⟩
 ·have f:zaP m.toNat=false:=f;exact brF ⟨rb (by unfold zeJ;rw[f];rfl),a⟩
end
theorem zqB{X:Wd}{b:Nat}{x:ExD}{q:OA}{c:Nat}(fx:ExH X b x q c):zF X ⟨b,0+295,none⟩ (zA.enc (zgr x)):=by
 have h:=zI (n:=295) (m:=38) (za fx);have e:((exC x q c).toArray.toList.drop 295).take 38=zA.enc (zgr x):=by
  show((exC x q c).drop 295).take 38=_;unfold zgr;rw[zec];obtain⟨A,d,a⟩:∃A:List Value,A.length=295/\exC x q c=A++zeL x.regs x.mem :=
   ⟨.slice q x.ev.length c::(zd x.po++(zd x.rf++(zd x.co++(zd x.dt++(zd x.ct++zd x.rm))))),by simp only[Qj,lap,ze],by simp only[exC,zeL,KH,Qc]⟩
  rw[a,<- d,Ub,JB (by rw[zoH];decide)]
 rw[<- e];exact h
theorem zjO(m:Nat)(l:List ExD)(x:ExD):byL m (l++[x])=byL m l++if zeJ m x=true then[zgr x] else[]:=by
 unfold byL;rw[Kq,QG,Qe,List.filter_nil]
 split <;> rfl
section
variable{w:Wd}{most:Nat}
theorem zsM{pc:List Value}(hpc:pc.length=10):CB 13 #[.agg pc.toArray,u8 7,i64 most] w (.tuple #[.slice none 0 0,i64 2]):=by
 refine zC 45 [.agg pc.toArray,u8 7,i64 most] Tryz.func13 ?_;exact brF (brT ⟨rfl,(zba w _)⟩)
end
section
variable{w:Wd}{pa pb:OA}{ca cb:Nat}{la lb:List FinV}
theorem zjY(ha:SlR zA w pa la)(hb:SlR zA w pb lb)(hn:la.length<=1000000):CB 15 #[.slice pa la.length ca,.slice pb lb.length cb] w (.bool (decide (la=lb))):=by
 refine zC 26 [.slice pa la.length ca,.slice pb lb.length cb] Tryz.func15 ?_;refine biE (fun h=>?_) fun h=>?_
 ·have h:¬la=lb:=fun e=>by subst e;have h:(!decide ((la.length:Int)=(la.length:Int)))=true:=h;simp at h
  exact⟨by rw[QX h];rfl,UR _ _⟩
 have s:la.length=lb.length:=by
  have h:(!decide ((la.length:Int)=(lb.length:Int)))=false:=h;have:=dT (by simpa using h:decide ((la.length:Int)=(lb.length:Int))=true);omega
 clear h;refine⟨Nat,fun k=>⟨[(0,.slice pa la.length ca),(1,.slice pb lb.length cb),(11,.slice pa la.length ca),(12,i64 la.length),(13,i64 k)],[]⟩,fun k X=>k<=la.length/\la.take k=lb.take k/\Bw w X,fun k=>la.length-k,0,
  (cvE rfl rfl),⟨UP _,rfl,UR _ _⟩,?_⟩
 rintro k X ⟨hk,j,l⟩;refine biE (fun h=>?_) fun h=>?_
 ·have a:k<la.length:=by have:=dT h;omega
  have b:k<lb.length:=by omega
  have f:=l.trans ((UR X.heap.size X).drew.mono l.size);obtain⟨t,v,rfl,n,c⟩:=(ha.below f).at a;obtain⟨u,z,rfl,p,d⟩:=(hb.below f).at b;obtain⟨x,m⟩:=nm (la[k]);obtain⟨y,i⟩:=nm (lb[k]);have r:=c k a;have q:=d k b;rw[<- m] at r;rw[<- i] at q;refine DrawE.ord [] [0,1,2,3,4,5,6,7,8] (by kernel_rfl) ⟨k,rfl,a,zA.enc x,zA.len x,r,n,k,rfl,b,zA.enc y,zA.len y,q,p,_,fun w=>zi8 _ _ x y w,biE (fun h=>?_) fun h=>?_⟩
  ·have h:¬x=y:=by simpa using h
   have o:¬la=lb:=fun e=>h (by subst e;rw[m,i]);exact⟨by rw[QX o];rfl,f⟩
  ·have h:x=y:=by simpa using h
   exact⟨_,zg (by omega),k+1,(cvE rfl rfl),⟨a,by rw[tsg a,tsg b,j,<- m,<- i,h],f⟩,by dsimp only;omega⟩
 ·have g:k=la.length:=by have:=dF h;omega
  subst g;have e:la=lb:=by
   rw[Qn,s,Qn] at j;exact j
  exact⟨by rw[Uh e];rfl,l⟩
end
theorem zh6{c:Cnd}{l:List FinV}(h:zia l=true):zd3 c l=(l.filter fun f=>qe f 20 c).length:=by
 unfold zd3;rw[zfL (zd6 h)]
theorem zk3{a:UInt8}{c:Cnd}{l:List FinV}(h:zia l=true):zfk a c l=if a=1 then decide (0<(l.filter fun f=>qe f 20 c).length) else if a=2 then decide ((l.filter fun f=>qe f 20 c).length=0) else if a=3 then decide ((l.filter fun f=>qe f 20 c).length=l.length) else false:=by
 unfold zfk;rw[zh6 h,zfL (zd6 h)]
def zhB:List Cnd:=[.mk 1 0 0 0 [],.mk 1 1 0 0 []]
abbrev zbi:Cnd := .mk 3 0 0 0 zhB
theorem zhL:zia scL=true:=by kernel_rfl
theorem ziE:zia zbA=true:=by kernel_rfl
theorem zpK:zfk 1 zbi scL=false:=(zk3 zhL).trans (by kernel_rfl)
theorem zpJ:zfk 2 zbi scL=true:=(zk3 zhL).trans (by kernel_rfl)
theorem zli(a:UInt8)(h:a=1\/a=2\/a=3):zb5 a zbi scL=0:=by unfold zb5;rw[Gd h,zh6 zhL];kernel_rfl
theorem zny:zfk 1 zbi zbA=true:=(zk3 ziE).trans (by kernel_rfl)
theorem znx:zb5 1 zbi zbA=1:=by unfold zb5;rw[Gd (.inl rfl),zh6 ziE];kernel_rfl
def okT:List UInt8:=[48,58,114,48,61,49,32,49,58,114,48,61,49,32,120,61,49,32,121,61,49]
theorem zpH:zbM zc6 (zV 1 1)=okT:=by kernel_rfl
theorem KidsG.empty{B:Nat}{w:Wd}:KidsG B w none [] := .mk none [] (by decide) 0 0 (.inl rfl) (fun _=>none) (fun _=>0) (fun i a=>by simp at a) (fun i a=>by simp at a)
theorem zmK{X:Wd}{g:Nat}(f:X.heap[g]?=some (.cells (zu (.mk 1 0 0 0 []) none 0++zu (.mk 1 1 0 0 []) none 0).toArray 27 (0,0))):KidsG X.heap.size X (some ⟨g,0,none⟩) zhB:=by
 refine .mk _ _ (by decide) g 0 (.inr ⟨rfl,hlt f,_,_,f⟩) (fun _=>none) (fun _=>0) (fun i a=>?_) (fun i a=>?_)
 ·match i,a with
  | 0,_=>exact zI (n:=0) (m:=5) (za f)
  | 1,_=>exact zI (n:=5) (m:=5) (za f)
 ·match i,a with
  | 0,_=>exact .empty
  | 1,_=>exact .empty
section
variable{w:Wd}
abbrev FsV (X:Wd) (l:List FinV) (s:OA×Nat):Prop:=SlR zA X s.1 l/\(s.1=none->s.2=0)
theorem zn8{E:Enc FinV}{T B c:Nat}{w:Wd}{q:OA}{l:List FinV}(h:OwnS E T B w q c l):q=none->c=0:=fun e=>by
 rcases h.inv with⟨_,a,_⟩ | ⟨g,b,a,_⟩
 ·exact a
 ·rw[e] at a;cases a
theorem FsV.below{X Y:Wd}{l:List FinV}{s:OA×Nat}(h:FsV X l s)(hb:Bw X Y):FsV Y l s:=⟨h.1.below hb,h.2⟩
end
end Go.Proofs.YtakcdebpklffiaaGreatDoor
namespace Go.Sei
def zbp (ns:List Nat):Nat:=ns.foldl (· * ·) 1
theorem zfT(ns:List Nat)(n:Nat):zbp (ns++[n])=zbp ns*n:=by
 unfold zbp;rw[KL];rfl
def zkB (init:List UInt8) (Ts:List (List PathD)):List MixD:=(zbh (Ts.map List.length)).filterMap fun ds=>zja init (zbq Ts ds)
theorem zfU:∀(Ts:List (List PathD)) (ds:List Nat) (T:List PathD) (d:Nat),Ts.length=ds.length->zbq (Ts++[T]) (ds++[d])=zbq Ts ds++(match T[d]? with | some P=>[P] | none=>[])
 | [],[],T,d,_=>by
  show(match T[d]? with | some P=>[P] | none=>[])++[]=_;rw[QA];rfl
 | [],_::_,_,_,h=>by simp at h
 | _::_,[],_,_,h=>by simp at h
 | A::Ts,e::ds,T,d,h=>by
  show(match A[e]? with | some P=>[P] | none=>[])++zbq (Ts++[T]) (ds++[d])=((match A[e]? with | some P=>[P] | none=>[])++zbq Ts ds)++_;rw[zfU Ts ds T d (by simpa using h),KH]
theorem zkr(ns:List Nat)(n:Nat):z8 (ns++[n])=z8 ns*n:=by
 rw[zcT];show _*(n*1)=_;rw[UO]
theorem zhr:∀(ns:List Nat) (a:Nat),ns.foldl (· * ·) a=a*z8 ns
 | [],a=>(UO a).symm
 | n::ns,a=>by
  show ns.foldl (· * ·) (a*n)=a*(n*z8 ns);rw[zhr ns,Ut]
theorem zmw:∀ns:List Nat,z8 ns.reverse=zbp ns:=fun ns=>by
 have h:∀l:List Nat,z8 l.reverse=z8 l:=fun l=>by
  induction l with
  | nil=>rfl
  | cons n l ih =>
   rw[KO,zkr,ih];exact UD _ _
 rw[h];unfold zbp;rw[zhr,Nat.one_mul]
end Go.Sei
namespace Go.Proofs.YtakcdebpklffiaaGreatDoor
open Go.Vc Go.RowKit Go.Sei
theorem zqZ{b o:Nat}{w:Wd}:Calls PG 29 #[.pointer (some ⟨b,o,none⟩)] w fun e w'=>e = .returned (.func (.func 67) #[] #[At0 w.heap.size])/\w'.heap[w.heap.size]?=some (.cells #[.pointer (some ⟨b,o,none⟩)] 148 (0,0))/\w'.heap.size=w.heap.size+1/\Bw w w':=by
 refine zC 4 [.pointer (some ⟨b,o,none⟩)] Tryz.func29 ?_;exact⟨rfl,zw w _,wz _ _,(zba w _)⟩
def zrc (B:Nat) (F:Nat->Prop) (Y:Wd) (x:zig):Prop:=OwnS evE 80 B Y x.2.1 x.2.2 x.1.ev/\∀a,x.2.1=some a->F a.block
theorem zeA(B:Nat):zhD 78 32 (zrc B):=by
 rintro F G Y Z x ⟨e,d⟩ f h;refine⟨e.same fun a b=>?_,fun a b=>h _ (d a b)⟩;obtain⟨_,_,c,g⟩:=zx e b;exact f _ c _ (d a b) g (by decide) (by decide)
theorem zj2{B B1 bx c0:Nat}{p0:OA}{l0:List zig}{xs:List ExD}{w W0:Wd}{Rd:Nat->Prop}{pm:Value}(ho:OwnS exE 78 B w p0 c0 l0)(hn:∀x∈l0,OwnS evE 80 B w x.2.1 x.2.2 x.1.ev)(hB:B<=w.heap.size)
  (hI:zpp PG 67 [At0 bx] xs W0 Rd (StX B1) GvX) (hW0:W0.heap.size<=w.heap.size) (hRd:∀k,Rd k->k<W0.heap.size/\w.heap[k]?=W0.heap[k]?) (hRB:∀k,Rd k->k<B\/k=bx) (fb:w.heap[bx]?=some (.cells #[pm] 148 (0,0))) (hB1:B<=B1) (hlen:l0.length+xs.length<=30000) :
  Calls PG 28 #[.slice p0 l0.length c0,.func (.func 67) #[] #[At0 bx]] w fun e w'=>(∃(new:List zig) (p:OA) (c:Nat),e = .returned (.slice p (l0++new).length c)/\new.map (·.1)=xs/\OwnS exE 78 B w' p c (l0++new)/\∀x∈l0++new,OwnS evE 80 B w' x.2.1 x.2.2 x.1.ev)/\Below B w w':=by
 refine qg 13 [.slice p0 l0.length c0,.func (.func 67) #[] #[At0 bx]] (.c .p .p) Tryz.func28 ?_;obtain⟨L,hL⟩:=nm (w.heap.size);refine⟨Unit,fun _=>⟨[(1,.func (.func 67) #[] #[At0 bx]),(2,At0 L)],[]⟩,fun _ X=>X.heap[L]?=some (.cells [.slice p0 l0.length c0].toArray 32 (0,0))/\X.heap.size=L+1/\Bw w X,?_,?_⟩
 ·exact⟨(),⟨.cons rfl (.cons (by rw[hL];rfl) .nil),rfl⟩,by rw[hL];exact zw w _,by rw[hL];exact wz _ _,(zba w _)⟩
 rintro _ W ⟨fL,sW,r⟩;have a2:=hlt fb;obtain⟨F0,z⟩:∃F0:Nat->Prop,F0=fun k=>k=L\/(∃a,p0=some a/\k=a.block)\/∃x∈l0,∃a,x.2.1=some a/\k=a.block:=⟨_,rfl⟩;have ac:∀k,F0 k->B<=k/\k<W.heap.size/\(k≠L->k≠bx):=by
  intro k b;rw[z] at b;rcases b with rfl | ⟨a,d,rfl⟩ | ⟨x,hx,a,d,rfl⟩
  ·exact⟨by omega,by omega,fun h=>(h rfl).elim⟩
  ·obtain⟨h1,h2,ag,m⟩:=zx ho d;exact⟨h1,by omega,fun _ e=>by rw[e,fb] at m;simp at m⟩
  ·obtain⟨h1,h2,ag,m⟩:=zx (hn x hx) d;exact⟨h1,by omega,fun _ e=>by rw[e,fb] at m;simp at m⟩
 have az:Gath exE 78 32 B W.heap.size L W (zrc B) l0 F0 W:=by
  refine⟨UN _,by rw[z];exact .inl rfl,fun k b=>(ac k b).2.1,⟨p0,c0,fL,ho.below r,fun a d=>by rw[z];exact .inr (.inl ⟨a,d,rfl⟩)⟩,fun x hx=>⟨(hn x hx).below r,fun a d=>by rw[z];exact .inr (.inr ⟨x,hx,a,d,rfl⟩)⟩,UR _ _⟩
 refine zrN (zes _) rfl (lb := #[At0 bx]) rfl rfl hI (fun l vs W k ⟨x,q,c,h1,h2,m⟩ ⟨x',a,o,n,h5⟩=>?_) (by have:=r.size;omega) (fun k b=>⟨(hRd k b).1,?_⟩) (fun l vs W ⟨x,q,c,_,h,_⟩=>by rw[h];rfl) (by decide)
  F0 (fun l F Y=>∃aa,(∃new,aa=l0++new/\new.map (·.1)=l/\new.length<=xs.length)/\Gath exE 78 32 B W.heap.size L W (zrc B) aa F Y) (fun k b=>?_) (Gath.iter (zeA B) (by omega)) ⟨l0,⟨[],by simp,rfl,UP _⟩,az⟩ ?_ ?_
 ·rw[h2] at n;have h6:exC x q c=exC x' (some a) o:=by
   have h7:=Value.agg.inj (Js n);simpa using h7
  have h8:Value.slice q x.ev.length c=Value.slice (some a) x'.ev.length o:=Js h6;have h9:q=some a:=by injection h8
  obtain⟨_,_,ag,hc⟩:=zx m h9;rw[h5];exact⟨_,_,_,hc⟩
 ·rw[<- (hRd k b).2];exact r.block k (by have:=(hRd k b).1;omega)
 ·intro h;obtain⟨h1,h2,m⟩:=ac k h;have n:=(hRd k b).1;rcases hRB k b with h5 | h5
  ·omega
  ·exact m (by omega) h5
 ·rintro yl l x vs F Y ba ar ⟨aa,⟨new,rfl,f,ae⟩,j⟩ ⟨x',q,c,ai,rfl,oq⟩ bc bd ⟨lo,am⟩;have ay:x=x':=by simpa using ai
  subst ay;have a6:=j.size;refine zr (X:=Y) (v := .agg (exC x q c).toArray) k78 (zM _ _ _) zaF (zbt _ _ _) fun Z g fZ sZ=>?_;have fZ:ExH Z Y.heap.size x q c:=fZ;obtain⟨F1,u⟩:∃F1:Nat->Prop,F1=fun k=>F k\/GvX [.agg (exC x q c).toArray] k:=⟨_,rfl⟩;rw[<- u];have a0:∀a,q=some a->F1 a.block:=fun a d=>by
   rw[u];exact .inr ⟨x,a,c,by rw[d],rfl⟩
  have a1:∀k,GvX [.agg (exC x q c).toArray] k->∃a,q=some a/\k=a.block:=by
   rintro k ⟨x',a,o,n,h5⟩;have h6:exC x q c=exC x' (some a) o:=by
    have h7:=Value.agg.inj (Js n);simpa using h7
   have h8:Value.slice q x.ev.length c=Value.slice (some a) x'.ev.length o:=Js h6;have h9:q=some a:=by injection h8
   exact⟨a,h9,h5⟩
  have ap:∀k,F1 k->k<Y.heap.size:=fun k b=>by
   rw[u] at b;rcases b with b | b
   ·exact j.lt k b
   ·obtain⟨a,d,rfl⟩:=a1 k b;exact(zx oq d).2.1
  have af:∀k,F k->F1 k:=fun k b=>by rw[u];exact .inl b
  have ao:Gath exE 78 32 B W.heap.size L W (zrc B) (l0++new) F1 Z:=by
   obtain⟨p,o,h1,h2,m⟩:=j.row;have sZ:=g.size;exact⟨by omega,af _ j.inL,fun k b=>by have:=ap k b;omega,⟨p,o,zb g h1,h2.below g,fun a d=>af _ (m a d)⟩,fun y hy=>⟨(j.nest y hy).1.below g,fun a d=>af _ ((j.nest y hy).2 a d)⟩,j.old.trans (g.mono (by omega))⟩
  refine⟨rfl,F1,KeepsG.below g fun k b => .inl b,⟨_,⟨new,rfl,f,ae⟩,ao⟩,?_⟩;rintro O Y2 ak ⟨a8,⟨ad,rfl,s,a4⟩,aj⟩;clear ao f ae j;have a7:=hlt am;have fY:ExH Y2 Y.heap.size x q c:=by rw[ak];exact(zj (by omega)).trans fZ
  have aw:OwnS evE 80 B1 Y2 q c x.ev:=by
   rw[ak];refine(oq.below g).same fun a d=>zj fun e=>?_;obtain⟨_,_,ag,hc⟩:=zx oq d;rw[e,am] at hc
   cases hc
  obtain⟨p,o,n,h5,h6⟩:=aj.row;refine⟨_,zc (za n) (i:=0) rfl,exC x q c,zM _ _ _,za fY,hlt fY,?_⟩;obtain⟨nx,ab⟩:∃nx:zig,nx=(x,q,c):=⟨_,rfl⟩;have av:exC x q c=exE.enc nx:=by rw[ab];rfl
  have a9:l.length<xs.length:=by
   obtain⟨t,ht⟩:=ar;rw[<- ht];simp only[lap,Qj];omega
  have a5:ad.length=l.length:=by rw[<- s,QD]
  refine⟨⟨by decide,by decide,zaF⟩,exE.enc nx,by rw[<- av];exact zar (zM _ _ _) zaF,?_⟩;have bb:W.heap.size<=Y2.heap.size:=aj.size;obtain⟨v,Y5,al,S,ah,F',ax,au,a3⟩:=aj.stepX (P:=PG) (ty:=32) (cap1:=1) (zeA B) (by decide) Tryz.underlying32 k78 rfl rfl (by show _=333;exact zaF) k32 rfl (by omega) (by omega) (UR _ _) nx (by rw[lap];omega) (by rw[lap];show(_+1)*2416<=_;omega)
   (fun G Z _ _ m n=>zeA B F1 G Y2 Z nx ⟨by rw[ab];exact aw.lower hB1,fun a d=>by rw[ab] at d;exact a0 a d⟩ m n) p o n
  unfold zcA jP;exact SatR.mk al (SatR.mk ah ⟨F',⟨_,⟨ad++[nx],by rw[KH],by rw[QG,s,ab];rfl,by rw[lap];show _+1<=_;omega⟩,ax⟩,au⟩)
 ·rintro D F Y hD aq ⟨aa,⟨new,rfl,f,ae⟩,j⟩ an;obtain⟨p,o,n,h5,h6⟩:=j.row;refine⟨_,zc (za n) (i:=0) rfl,_,rfl,an,?_⟩;have kp:∀a:Addr,F a.block->(Y.putObj D (.deferred none)).heap[a.block]?=Y.heap[a.block]?:=fun a h2=>zj fun e=>by rw[<- e] at aq;exact aq h2
  exact⟨⟨new,p,o,rfl,f,h5.same fun a d=>kp a (h6 a d),fun x hx=>(j.nest x hx).1.same fun a d=>kp a ((j.nest x hx).2 a d)⟩,qh ((r.mono hB).trans j.old) (by omega) _⟩
structure MixX where
 m:MixD
 q:OA
 c:Nat
 p1:OA
 c1:Nat
 p2:OA
 c2:Nat
 p3:OA
 c3:Nat
 xs:List zaj
 ys:List zaj
def zmD (x:MixX):List Value:=exC x.m.base x.q x.c++[.slice x.p1 x.m.rs.length x.c1,.slice x.p2 x.xs.length x.c2,.slice x.p3 x.ys.length x.c3]
theorem zol(x:MixX):(zmD x).length=336:=by
 unfold zmD;rw[lap,zM];rfl
theorem zjb(x:MixX):(zmD x).all Value.oneCell'=true:=by
 unfold zmD;rw[Qz,zbt];rfl
def zh4:Enc MixX:=⟨zmD,336,zol,by decide,fun a u hu=>Qa.1 (zjb a) u hu⟩
structure NInM (B:Nat) (F:Nat->Prop) (Y:Wd) (x:MixX):Prop where
 e2:x.xs.map (·.1)=x.m.rs.map (·.2)
 e3:x.ys.map (·.1)=x.m.wr
 ev:RowIn evE 80 B F Y x.q x.c x.m.base.ev
 r1:RowIn zB 3 B F Y x.p1 x.c1 (x.m.rs.map (·.1))
 r2:RowIn qF 89 B F Y x.p2 x.c2 x.xs
 n2:∀y∈x.xs,RowIn zB 3 B F Y y.2.1 y.2.2 y.1
 r3:RowIn qF 89 B F Y x.p3 x.c3 x.ys
 n3:∀y∈x.ys,RowIn zB 3 B F Y y.2.1 y.2.2 y.1
theorem NInM.same{B:Nat}{F G:Nat->Prop}{Y Z:Wd}{x:MixX}(h:NInM B F Y x)(k:∀{α:Type} {E:Enc α} {T c:Nat} {q:OA} {l:List α},T≠92->T≠85->T≠4->RowIn E T B F Y q c l->RowIn E T B G Z q c l):NInM B G Z x :=
 ⟨h.e2,h.e3,k (by decide) (by decide) (by decide) h.ev,k (by decide) (by decide) (by decide) h.r1,k (by decide) (by decide) (by decide) h.r2,fun y a=>k (by decide) (by decide) (by decide) (h.n2 y a),k (by decide) (by decide) (by decide) h.r3,fun y a=>k (by decide) (by decide) (by decide) (h.n3 y a)⟩
theorem NInM.lower{B B':Nat}{F:Nat->Prop}{Y:Wd}{x:MixX}(h:NInM B F Y x)(hB:B'<=B):NInM B' (fun k=>B'<=k) Y x:=by
 have k:∀{α:Type} {E:Enc α} {T c:Nat} {q:OA} {l:List α},RowIn E T B F Y q c l->RowIn E T B' (fun k=>B'<=k) Y q c l:=fun{α E T c q l} d=>⟨d.own.lower hB,fun a e=>(zx (d.own.lower hB) e).1⟩;exact⟨h.e2,h.e3,k h.ev,k h.r1,k h.r2,fun y b=>k (h.n2 y b),k h.r3,fun y b=>k (h.n3 y b)⟩
theorem zhg(B:Nat):zhD 92 85 (NInM B):=by
 rintro F G Y Z x h g k;refine h.same fun{α E T c q l} i f _ b=>⟨b.own.same fun a d=>?_,fun a d=>k _ (b.inF a d)⟩;obtain⟨_,_,e,j⟩:=zx b.own d;exact g _ e _ (b.inF a d) j i f
abbrev TpR:=List zcO×OA×Nat
def tpE:Enc TpR where
 sz:=1
 enc x:=[.slice x.2.1 x.1.length x.2.2]
 len x:=rfl
 one x v hv:=by
  simp at hv;subst hv;rfl
 pos:=by decide
structure MxS (B:Nat) (Z:Wd) (L bP:Nat) (ss:List Nat) (ps:OA) (cs:Nat) (ts:List TpR) (pT:OA) (cT:Nat):Prop where
 f0:Z.heap[L]?=some (.cells #[At0 bP] 88 (0,0))
 f1:Z.heap[L+1]?=some (.cells #[.slice none 0 0] 85 (0,0))
 f2:Z.heap[L+2]?=some (.cells #[.bool false] 4 (0,0))
 f3:Z.heap[L+3]?=some (.cells #[.slice pT ts.length cT] 100 (0,0))
 own:OwnS zB 3 B Z ps cs ss
 rk:OwnS tpE 101 B Z pT cT ts
 n1:∀z∈ts,OwnS ji 145 B Z z.2.1 z.2.2 z.1
 n2:∀z∈ts,∀x∈z.1,PthO B Z x
theorem PthO.same{B:Nat}{Y Z:Wd}{x:zcO}(h:PthO B Y x)(k:∀{α:Type} {E:Enc α} {T c:Nat} {q:OA} {l:List α},T=80\/T=46->OwnS E T B Y q c l->OwnS E T B Z q c l):PthO B Z x :=
 ⟨k (.inl rfl) h.1,k (.inr rfl) h.2.1,k (.inr rfl) h.2.2.1,k (.inr rfl) h.2.2.2⟩
theorem MxS.below{B:Nat}{Z Y:Wd}{L bP:Nat}{ss:List Nat}{ps:OA}{cs:Nat}{ts:List TpR}{pT:OA}{cT:Nat}(h:MxS B Z L bP ss ps cs ts pT cT)(hb:Bw Z Y):MxS B Y L bP ss ps cs ts pT cT :=
 ⟨zb hb h.f0,zb hb h.f1,zb hb h.f2,zb hb h.f3,h.own.below hb,h.rk.below hb,fun z a=>(h.n1 z a).below hb,fun z a x d=>(h.n2 z a x d).same fun{α E T c q l} _ b=>b.below hb⟩
theorem MxS.size{B:Nat}{Z Y:Wd}{L bP n:Nat}{ss:List Nat}{ps ps':OA}{cs cs':Nat}{ts:List TpR}{pT:OA}{cT:Nat}(h:MxS B Z L bP ss ps cs ts pT cT)(ho:OwnS zB 3 B Y ps' cs' (ss++[n]))(g:Z.grownBy Y (ps.map Addr.block)):MxS B Y L bP (ss++[n]) ps' cs' ts pT cT :=
 ⟨qb h.f0 h.own (by decide) g,qb h.f1 h.own (by decide) g,qb h.f2 h.own (by decide) g,qb h.f3 h.own (by decide) g,ho,jK h.rk h.own (by decide) g,fun z a=>jK (h.n1 z a) h.own (by decide) g,fun z a x e=>(h.n2 z a x e).same fun{α E T c q l} d b=>jK b h.own (by rcases d with rfl | rfl <;> decide) g⟩
theorem ztO{B c:Nat}{V1:Wd}{p:OA}{l:List TpR}{y:TpR}{a:Addr}(ho:OwnS tpE 101 B V1 p c l)(ha:zF V1 a ([y].flatMap tpE.enc))(hB:B<=V1.heap.size)(hl:l.length<=100000){K:Value->Wd->Prop}
  (h:∀p' c' w',OwnS tpE 101 B w' p' c' (l++[y])->V1.grownBy w' (p.map Addr.block)->(∀a,p'=some a->p=some a\/a.block=V1.heap.size)->K (.slice p' (l++[y]).length c') w') :
  SatR ((Builtin.append_ #[100,100] 100 #[.slice p l.length c,.slice (some a) 1 1]).run PG V1) K :=
 qQ (E:=tpE) (T:=101) (B:=B) (l:=l) (news:=[y]) (cap:=c) (m:=1) Tryz.underlying100 zqi rfl rfl rfl ho rfl ha hB (by omega) (by show(l.length+1)*24<=_;omega) fun p' c' w' d b _ e=>h p' c' w' d (by rw[j7] at b;exact b) e
theorem ztQ{B c:Nat}{V1:Wd}{p:OA}{l:List zcO}{y:zcO}{a:Addr}(ho:OwnS ji 145 B V1 p c l)(ha:zF V1 a ([y].flatMap ji.enc))(hB:B<=V1.heap.size)(hl:l.length<=100000){K:Value->Wd->Prop}
  (h:∀p' c' w',OwnS ji 145 B w' p' c' (l++[y])->V1.grownBy w' (p.map Addr.block)->(∀a,p'=some a->p=some a\/a.block=V1.heap.size)->K (.slice p' (l++[y]).length c') w') :
  SatR ((Builtin.append_ #[101,101] 101 #[.slice p l.length c,.slice (some a) 1 1]).run PG V1) K :=
 qQ (E:=ji) (T:=145) (B:=B) (l:=l) (news:=[y]) (cap:=c) (m:=1) Tryz.underlying101 zmL rfl rfl rfl ho rfl ha hB (by omega) (by show(l.length+1)*104<=_;omega) fun p' c' w' d b _ e=>h p' c' w' d (by rw[j7] at b;exact b) e
structure ThrQ (V:List UInt8) (l:List InsD):Prop where
 l12:l.length<=12
 ex:∀x∈l,zc7 x
 ok:qX l 6=true
 m:(jT l (ded V)).length<=4096
abbrev zK (V:List UInt8) (l:List InsD):List PathD:=(jT l (ded V)).map zbP
section
variable{B n:Nat}{p:Prg}{pc:List Value}{V:List UInt8}{w:Wd}
theorem zph(hB:B<=w.heap.size)(hP:PrgX B w pc p)(hG:GlobE w)(hok:zbr p=true)(hx:∀l∈p.threads,∀x∈l,zc7 x)(h12:∀l∈p.threads,l.length<=12)(hi1:1<=p.init.length)(hi12:p.init.length<=12)(his:zdj p.init=true)(hQ:zeW p.threads n (ded p.init)=some V) :
  Calls PG 25 #[.agg pc.toArray,i64 16] w fun e w'=>(∃(q:OA) (c:Nat),e = .returned (.tuple #[.slice q V.length c,i64 0])/\OwnS zN 5 w.heap.size w' q c V)/\Bw w w':=by
 refine qg 60 [.agg pc.toArray,i64 16] (.c .p (.s .p (.c .p .p))) Tryz.func25 ?_;obtain⟨L,hL⟩:=nm (w.heap.size);have ay:=hP.v.size;have az:=hP.v.len.threads;refine⟨Unit,fun _=>⟨[(1,i64 16),(2,AtR L)],[]⟩,fun _ X=>X.heap[L]?=some (.cells pc.toArray 29 (0,0))/\Bw w X,⟨(),⟨.cons rfl (.cons (by rw[hL];rfl) .nil),rfl⟩,by rw[hL];exact zw w _,(zba w _)⟩,?_⟩;rintro _ X ⟨y,o⟩;refine brF (brF ⟨pc,ay,za y,hlt y,cmo (zfv (UC hB o.size) (hP.v.below (o.mono hB)) (hG.c.below o)) ?_⟩);rintro e Y ⟨m,rfl,hm,d⟩;have am:m=0:=hm.2 hok;subst am;refine brF ?_;have f:=zst o d;have y:=zb d y;obtain⟨_,⟨p3,c3,h3,xs,ae,zck,aw⟩,⟨p2,c2,h2,ad⟩⟩:=hP;refine⟨OA×Nat,fun s=>⟨[(1,i64 16),(2,AtR L),(6,.slice s.1 (ded p.init).length s.2)],[]⟩,fun s Z=>OwnS zN 5 w.heap.size Z s.1 s.2 (ded p.init)/\Z.heap[L]?=some (.cells pc.toArray 29 (0,0))/\Bw w Z,?_,?_⟩
 ·refine⟨_,zc (za y) (i:=2) (by simpa using h2),cmo (zdC ((ad.below (f.mono hB)).slr (UC hB f.size)) hi1 hi12 his) ?_⟩;rintro e Z ⟨⟨q,c,rfl,ho⟩,t⟩;exact⟨(q,c),(cvE rfl rfl),OwnS.lower ho f.size,zb t y,(zst f t)⟩
 rintro⟨q,c⟩ X ⟨ho,y,o⟩;refine⟨Nat×List UInt8×OA×Nat,fun s=>⟨[(1,i64 16),(2,AtR L),(6,.slice s.2.2.1 s.2.1.length s.2.2.2)],[]⟩,
  fun s Z=>zeW p.threads s.1 s.2.1=some V/\OwnS zN 5 w.heap.size Z s.2.2.1 s.2.2.2 s.2.1/\Z.heap[L]?=some (.cells pc.toArray 29 (0,0))/\Bw w Z,fun s=>s.1,(n,ded p.init,q,c),
  (cvE rfl rfl),⟨hQ,ho,y,o⟩,?_⟩
 rintro⟨k,b,q,c⟩ X ⟨hQ,ho,y,o⟩;dsimp only at hQ ho ⊢
 cases k with
 | zero=>cases hQ
 | succ k =>
 have hQ:(if zeu p.threads b=true then(if(zdY p.threads b).length=b.length then some b else zeW p.threads k (zdY p.threads b)) else none)=some V:=hQ;have hr:zeu p.threads b=true:=by
  cases h:zeu p.threads b with
  | true=>rfl
  | false=>rw [h] at hQ;cases hQ
 rw[Gd hr] at hQ;unfold zeu at hr;simp only[bAT,dE,Qa] at hr;obtain⟨r1,r2,r3,r4,r5⟩:=hr;refine brN (QX (by omega)) ?_;have av:q=none->c=0:=fun e=>by
  rcases ho.inv with⟨_,h,_⟩ | ⟨g,_,h,_⟩
  ·exact h
  ·rw[e] at h;cases h
 have ap:∀a,q=some a->a.block<X.heap.size:=fun a ha=>(zap ho ha).2.1;refine cmo (zj1 ho.row (by omega) av) ?_;rintro e Y ⟨⟨q1,k1,rfl,o1⟩,d⟩;have f:=zst o d;have ag:=zb d y;have a2:xs.length=p.threads.length:=by rw[<- ae,QD]
 refine⟨_,zc (za ag) (i:=3) (by simpa using h3),?_⟩;obtain⟨g,hg⟩:∃g:List InsD->List UInt8,g=fun l=>jH (jT l b):=⟨_,rfl⟩;rw[<- hg] at r4 r5;have an:zdY p.threads b=ded (b++p.threads.flatMap g):=by unfold zdY;rw[hg]
 refine⟨Nat×OA×Nat,fun s=>⟨[(1,i64 16),(2,AtR L),(6,.slice q b.length c),(7,.slice s.2.1 (b++(p.threads.take s.1).flatMap g).length s.2.2),(33,.slice p3 p.threads.length c3),(34,i64 p.threads.length),(35,i64 (s.1:Nat))],[]⟩,
  fun s Z=>s.1<=p.threads.length/\OwnS zN 5 X.heap.size Z s.2.1 s.2.2 (b++(p.threads.take s.1).flatMap g)/\Bw X Z,fun s=>p.threads.length-s.1,(0,q1,k1),
  ⟨.cons rfl (.cons rfl (.cons rfl (.cons (by rw[Uf,Qg,QA];rfl) (.cons rfl (.cons rfl (.cons rfl .nil)))))),rfl⟩,⟨UP _,by show OwnS zN _ _ _ _ _ (b++(p.threads.take 0).flatMap g);rw[Uf,Qg,QA];exact o1,d⟩,?_⟩
 rintro⟨m,q1,k1⟩ Y ⟨hm,o1,d⟩;dsimp only at hm o1 ⊢;have f:=zst o d;have ag:=zb d y;have ac:=d.size;have r:∀j,(b++(p.threads.take j).flatMap g).length<=12:=fun j=>by
  have e:p.threads.flatMap g=(p.threads.take j).flatMap g++(p.threads.drop j).flatMap g:=by rw[<- Kb,JL]
  rw[e,<- KH,lap] at r4;omega
 refine biE (fun hc=>?_) fun hc=>?_
 ·have hc:(m:Int)<(p.threads.length:Int):=dT hc;have z:m<p.threads.length:=by omega
  have ab:m<xs.length:=by omega
  obtain⟨b3,o3,ai,au,af⟩:=zhT (zck.below (f.mono hB)) ab;have a1:b3<Y.heap.size:=nL au (UC hB f.size);have e3:some (Value.slice p3 p.threads.length c3)=some (Value.slice (some ⟨b3,o3,none⟩) p.threads.length c3):=by rw[ai]
  subst ai;refine⟨m,rfl,z,znC xs[m],by have:=zc (af m ab) (i:=0) (v:=znC xs[m]) rfl;exact this,?_⟩;obtain⟨ar,ao⟩:=aw _ (gM ab);have al:xs[m].1=p.threads[m]:=by
   have:=UY (fun l=>l[m]?) ae;simp only[KM,gE ab,gE z,QU,KS] at this;exact this
  have u:=gM z;have ex:=hx _ u;have aj:=h12 _ u;have ah:xs[m].1.length=p.threads[m].length:=by rw[al]
  have ax:xs[m].1≠[]:=fun e=>by have:=(r3 _ u).1;rw[<- ah,e] at this;exact Ge this (by decide)
  have hw:=znm (w:=Y) (l:=p.threads[m]) (dom:=b) (q:=xs[m].2.1) (p:=q) (cap:=xs[m].2.2) (cd:=c) (by rw[<- al];exact(ar.below (f.mono hB)).slr (UC hB f.size)) (ho.row.below d) aj ex (fun R hR=>(zlS aj ex R hR).1) (r3 _ u).2 (fun a ha=>nL (ao ax a ha) (UC hB f.size)) (fun a ha=>nL (ap a ha) ac) (by omega);rw[<- ah] at hw;have eg:jH (jT p.threads[m] b)=g p.threads[m]:=by rw[hg]
  rw[eg] at hw;refine cmo hw ?_;rintro e Z ⟨⟨q2,k2,rfl,o2⟩,t⟩;refine brF ?_;have tk:(p.threads.take (m+1)).flatMap g=(p.threads.take m).flatMap g++g p.threads[m]:=by
   rw[tsg z,Kb,KK,Qg,QA]
  have l1:=r m;have l2:=r (m+1);rw[tk,<- KH,lap] at l2;have aa:=d.trans (t.mono ac);have a0:=t.size;refine zej (E:=zN) (T:=5) (B:=X.heap.size) (l:=b++(p.threads.take m).flatMap g) (news:=g p.threads[m]) (cap:=k1) (m:=(g p.threads[m]).length) Tryz.underlying23 k5 rfl rfl rfl (o1.below t) rfl o2.row (fun e=>by
   rcases o2.inv with⟨_,h,_⟩ | ⟨g',_,h,_⟩
   ·exact h
   ·rw[e] at h;cases h) (by omega) (by omega) (by show((b++(p.threads.take m).flatMap g).length+(g p.threads[m]).length)*1<=_;omega) ?_
  intro q4 k4 U oU gU aq;rw[KH,<- tk] at oU ⊢;exact nxI (by omega) ⟨(m+1,q4,k4),(cvE rfl rfl),⟨z,oU,aa.trans aq⟩,zdc (by omega)⟩
 ·have hc:¬(m:Int)<(p.threads.length:Int):=dF hc;obtain rfl:m=p.threads.length:=by omega
  rw[Qn] at o1 ⊢;refine cmo (zdC o1.row (by rw[lap];omega) r4 r5) ?_;rintro e Z ⟨⟨q2,k2,rfl,o2⟩,t⟩;rw[<- an] at o2 ⊢;have aa:=d.trans (t.mono ac);have ak:=zst o aa;refine biE (fun he=>?_) fun he=>?_
  ·have he:(zdY p.threads b).length=b.length:=by
    have:=dT he;omega
   rw[Gd he] at hQ;simp only[KS] at hQ;subst hQ;exact⟨⟨q,c,rfl,ho.below aa⟩,ak⟩
  ·have he:¬(zdY p.threads b).length=b.length:=fun e=>(dF he) (by rw[e]);rw[Gc he] at hQ;exact⟨(k,zdY p.threads b,q2,k2),(cvE rfl rfl),⟨hQ,OwnS.lower o2 f.size,zb aa y,ak⟩,Qr k⟩
end
section
variable{w:Wd}{bP cv B:Nat}{pc:List Value}{qv:OA}{V:List UInt8}{p:Prg}
theorem zp7(fP:w.heap[bP]?=some (.cells pc.toArray 29 (0,0)))(hB:B<=w.heap.size)(hP:PrgX B w pc p)(hil:p.locs.length=p.init.length)(hi6:p.init.length<=6)(hG:GlobE w)(hV:SlR zN w qv V)(hv1:1<=V.length)(hv12:V.length<=12)(hvs:zdj V=true)(hd12:(ded V).length<=12)
  (ht4:p.threads.length<=4) (hT:∀l∈p.threads,ThrQ V l) (hne:∀l∈p.threads,l≠[]) (hall:∀k,k<=p.threads.length->zbp ((p.threads.take k).map fun l=>(zK V l).length)<=4096) (hpb:∀l∈p.threads,∀P∈zK V l,PathB p.init.length P)
  (hsome:∀ds∈zbh ((p.threads.map (zK V)).map List.length),(zja p.init (zbq (p.threads.map (zK V)) ds)).isSome=true) :
  Calls PG 26 #[At0 bP,.slice qv V.length cv] w fun e w'=>(∃(ms:List MixX) (q:OA) (c:Nat),e = .returned (.tuple #[.slice q ms.length c,.bool true])/\ms.map (·.m)=zkB p.init (p.threads.map (zK V))/\OwnS zh4 92 w.heap.size w' q c ms/\∀x∈ms,NInM w.heap.size (fun k=>w.heap.size<=k) w' x)/\Bw w w':=by
 refine qg 89 [At0 bP,.slice qv V.length cv] (.c .p (.c .p (.s .p (.s .p (.c .p (.c .p (.s .p .p))))))) Tryz.func26 ?_;obtain⟨L,hL⟩:=nm (w.heap.size);have dq:=hlt fP;refine⟨Unit,fun _=>⟨[(1,.slice qv V.length cv),(2,At0 L),(4,At0 (L+1)),(5,At0 (L+2))],[]⟩,fun _ X=>X.heap[L]?=some (.cells #[At0 bP] 88 (0,0))/\X.heap[L+1]?=some (.cells #[.slice none 0 0] 85 (0,0))/\X.heap[L+2]?=some (.cells #[.bool false] 4 (0,0))/\X.heap.size=L+3/\Bw w X,?_,?_⟩
 ·have s1:=wz w (.cells #[At0 bP] 88);have h2:=zw (w.alloc (.cells #[At0 bP] 88)) (.cells #[.slice none 0 0] 85);have s2:=wz (w.alloc (.cells #[At0 bP] 88)) (.cells #[.slice none 0 0] 85);have h3:=zw ((w.alloc (.cells #[At0 bP] 88)).alloc (.cells #[.slice none 0 0] 85)) (.cells #[.bool false] 4);have s3:=wz ((w.alloc (.cells #[At0 bP] 88)).alloc (.cells #[.slice none 0 0] 85)) (.cells #[.bool false] 4);rw[s1] at h2 s2;rw[s2] at h3 s3;refine⟨(),⟨.cons rfl (.cons (by rw[hL];rfl) (.cons (by rw[hL,<- s1];rfl) (.cons (by rw[hL,<- s2];rfl) .nil))),rfl⟩,?_,?_,?_,?_,?_⟩
  ·rw[hL];exact z6 _ (z6 _ (zw w _))
  ·rw[hL];exact z6 _ h2
  ·rw[hL];exact h3
  ·rw[hL];exact s3
  ·exact(((zba w _)).alloc (by simp) _).alloc (by simp;omega) _
 rintro _ X ⟨f0,f1,f2,sX,aa⟩;refine⟨Unit,fun _=>⟨[(1,.slice qv V.length cv),(2,At0 L),(4,At0 (L+1)),(5,At0 (L+2)),(6,At0 (L+3))],[]⟩,fun _ Y=>MxS w.heap.size Y L bP [] none 0 [] none 0/\Bw w Y,?_,?_⟩
 ·refine⟨(),⟨.cons rfl (.cons rfl (.cons rfl (.cons rfl (.cons (by rw[<- sX];rfl) .nil)))),rfl⟩,⟨z6 _ f0,z6 _ f1,z6 _ f2,by rw[<- sX];exact zw X _,OwnS.nil,OwnS.nil,fun z hz=>(by cases hz),fun z hz=>(by cases hz)⟩,aa.alloc aa.size _⟩
 clear f0 f1 f2 sX aa;rintro _ X ⟨hS,aa⟩;have c0:=hP;obtain⟨_,⟨p3,c3,h3,xs,b7,zck,d6⟩,⟨p2,c2,h2,bl⟩⟩:=hP;have ei:xs.length=p.threads.length:=by rw[<- b7,QD]
 refine⟨(List TpR×OA×Nat)×OA×Nat,fun s=>⟨[(2,At0 L),(4,At0 (L+1)),(5,At0 (L+2)),(6,At0 (L+3)),(7,.slice s.2.1 (p.threads.map fun l=>(zK V l).length).length s.2.2)],[]⟩,fun s Z=>MxS w.heap.size Z L bP (p.threads.map fun l=>(zK V l).length) s.2.1 s.2.2 s.1.1 s.1.2.1 s.1.2.2/\s.1.1.map (fun z=>z.1.map (·.1))=p.threads.map (zK V)/\Bw w Z,?_,?_⟩
 ·refine⟨_,zc (za hS.f0) (i:=0) rfl,_,zc (za (zb aa fP)) (i:=3) (by simpa using h3),?_⟩;refine⟨Nat×(List TpR×OA×Nat)×OA×Nat,fun s=>⟨[(1,.slice qv V.length cv),(2,At0 L),(4,At0 (L+1)),(5,At0 (L+2)),(6,At0 (L+3)),(7,.slice s.2.2.1 ((p.threads.take s.1).map fun l=>(zK V l).length).length s.2.2.2),(8,i64 (zbp ((p.threads.take s.1).map fun l=>(zK V l).length):Nat)),(23,.slice p3 p.threads.length c3),(24,i64 p.threads.length),(25,i64 (s.1:Nat))],[]⟩,
   fun s Z=>s.1<=p.threads.length/\MxS w.heap.size Z L bP ((p.threads.take s.1).map fun l=>(zK V l).length) s.2.2.1 s.2.2.2 s.2.1.1 s.2.1.2.1 s.2.1.2.2/\s.2.1.1.map (fun z=>z.1.map (·.1))=(p.threads.take s.1).map (zK V)/\Bw w Z,fun s=>p.threads.length-s.1,(0,([],none,0),none,0),
   (cvE rfl rfl),⟨UP _,hS,rfl,aa⟩,?_⟩
  clear hS aa;rintro⟨k,⟨ts,pT,cT⟩,ps,cs⟩ Z ⟨hk,hS,hz,g⟩;dsimp only at hk hS hz ⊢;have ed:ts.length=k:=by
   have:=UY List.length hz;rw[QD,QD,Ql] at this;omega
  refine biE (fun hc=>?_) fun hc=>?_
  ·have hc:(k:Int)<(p.threads.length:Int):=dT hc;have ab:k<p.threads.length:=by omega
   have a0:k<xs.length:=by omega
   have ai:=g.size;obtain⟨l,bm⟩:∃l,p.threads[k]=l:=⟨_,rfl⟩;have cx:l∈p.threads:=by rw[<- bm];exact gM ab
   have hQ:=hT l cx;obtain⟨b3,o3,ce,ek,bx⟩:=zhT (zck.below (g.mono hB)) a0;have ec:b3<Z.heap.size:=by omega
   have e3:some (Value.slice p3 p.threads.length c3)=some (Value.slice (some ⟨b3,o3,none⟩) p.threads.length c3):=by rw[ce]
   subst ce;refine⟨k,rfl,ab,znC xs[k],by have:=zc (bx k a0) (i:=0) (v:=znC xs[k]) rfl;exact this,?_⟩;obtain⟨c9,df⟩:=d6 _ (gM a0);have af:xs[k].1=l:=by
    have:=UY (fun l=>l[k]?) b7;simp only[KM,gE a0,gE ab,QU,KS] at this;rw[this,bm]
   have aw:(p.threads.take (k+1))=p.threads.take k++[l]:=by rw[tsg ab,bm]
   refine cmo (zrb (l:=xs[k].1) (vals:=V) ((c9.below (g.mono hB)).slr (by omega)) (hV.below g) hv1 hv12 hvs (by rw[af];exact hQ.ex) (by rw[af];exact hQ.ok) (hG.below g) (by rw[af];exact zlS hQ.l12 hQ.ex) (by rw[af];exact hQ.m) (fun a j=>by have:=df (by rw[af];exact hne l cx) a j;omega) hd12) ?_;rintro e Y ⟨⟨rk,pk,ck,rfl,ap,c7,dp⟩,ax⟩;rw[af] at ap;have ap:rk.map (·.1)=zK V l:=ap;have al:rk.length=(zK V l).length:=by rw[<- ap,QD]
   have dc:(zK V l).length<=4096:=by rw[QD];exact hQ.m
   have bj:=hS.below ax;have an:=hall (k+1) ab;have cm:=hall k (by omega);rw[aw,QG] at an;have an:zbp ((p.threads.take k).map (fun l=>(zK V l).length)++[(zK V l).length])<=4096:=an;rw[zfT,<- al] at an;obtain⟨A,hA⟩:=nm (zbp ((p.threads.take k).map fun l=>(zK V l).length));have dk:zbp ((p.threads.take (k+1)).map fun l=>(zK V l).length)=A*rk.length:=by
    rw[aw,QG];show zbp ((p.threads.take k).map (fun l=>(zK V l).length)++[(zK V l).length])=_;rw[zfT,<- al,hA]
   rw[<- hA] at an cm ⊢;obtain⟨nz,a2⟩:∃nz:TpR,nz=(rk,pk,ck):=⟨_,rfl⟩;have ak:[Value.slice pk rk.length ck]=tpE.enc nz:=by rw[a2];rfl
   refine⟨((A*rk.length:Nat):Int),by rw[<- Qy];exact zg (by omega),brF (brN (QX (by omega)) ⟨_,zc (za bj.f3) (i:=0) rfl,⟨by decide,by decide,rfl⟩,tpE.enc nz,by rw[<- ak];rfl,?_⟩)⟩;have ac:Bw Y (Y.alloc (.cells (tpE.enc nz).toArray 101)):=zba _ _;have u:=bj.below ac;have a6:=c7.below ac;have a8:=fun x hx=>(dp x hx).same (Z:=Y.alloc (.cells (tpE.enc nz).toArray 101)) fun{α E T c q l} _ ho=>ho.below ac;unfold zcA jP;show SatR _ _;refine ztO u.rk (qq tpE nz) (by have:=ac.size;have:=ax.size;omega) (by omega) fun p' c' U oU gU a9=>?_;have cb:=qb u.f0 u.rk (by decide) gU;have b5:=qb u.f1 u.rk (by decide) gU;have ci:=qb u.f2 u.rk (by decide) gU;have az:=qb u.f3 u.rk (by decide) gU;refine zn ztG az (o:=0) (v := .slice p' (ts++[nz]).length c') rfl rfl (by show 0<1;decide) rfl fun S fS gS sS=>?_;have bw:=g.trans (ax.mono ai);have sY:=ax.size;have el:=ac.size;have ar:Bw w U:=(bw.trans (ac.mono (by omega))).trans (qB u.rk (by omega) (UN _) gU);have cu:Bw w S:=ar.trans (zm gS ar.size (by omega));have dj:MxS w.heap.size S L bP ((p.threads.take k).map fun l=>(zK V l).length) ps cs (ts++[nz]) p' c':=by
    have kU:∀{α:Type} {E:Enc α} {T cc:Nat} {r:OA} {ll:List α},T≠101->T≠100->OwnS E T w.heap.size (Y.alloc (.cells (tpE.enc nz).toArray 101)) r cc ll->OwnS E T w.heap.size S r cc ll:=fun{α E T cc r ll} h1 h2 h=>qc (jK h u.rk h1 gU) az h2 gS;have kB:∀{b:Nat} {o:Obj},b≠L+3->U.heap[b]?=some o->S.heap[b]?=some o:=fun{b o} hb h=>(gS.block b (hlt h) (by simpa using hb)).trans h;have kP:∀x:zcO,PthO w.heap.size (Y.alloc (.cells (tpE.enc nz).toArray 101)) x->PthO w.heap.size S x:=fun x hx=>hx.same fun{α E T c q l} ht ho=>kU (by rcases ht with rfl | rfl <;> decide) (by rcases ht with rfl | rfl <;> decide) ho;refine⟨kB (by omega) cb,kB (by omega) b5,kB (by omega) ci,fS,kU (by decide) (by decide) u.own,qc oU az (by decide) gS,fun z hz=>?_,fun z hz=>?_⟩
    ·rcases QH.1 hz with hz | hz
     ·exact kU (by decide) (by decide) (u.n1 z hz)
     ·rw[Kv.1 hz,a2];exact kU (by decide) (by decide) (a6.lower ai)
    ·rcases QH.1 hz with hz | hz
     ·exact fun x hx=>kP x (u.n2 z hz x hx)
     ·rw[Kv.1 hz,a2];exact fun x hx=>kP x ((a8 x hx).mono ai)
   clear u a6 a8 bj hS oU gU a9 cb b5 ci az fS gS;refine⟨⟨by decide,by decide,rfl⟩,zB.enc rk.length,rfl,?_⟩;have ad:Bw S (S.alloc (.cells (zB.enc rk.length).toArray 3)):=zba _ _;have bo:=dj.below ad;have dm:=cu.size;have dh:=ad.size;unfold zcA jP;show SatR _ _;refine znf bo.own (qq zB rk.length) (by omega) (by rw[QD,Ql];omega) fun d0 d7 V' oV gV ea=>?_;rw[j7] at gV;have cf:=bo.size oV gV;have dy:((p.threads.take k).map fun l=>(zK V l).length)++[rk.length]=(p.threads.take (k+1)).map fun l=>(zK V l).length:=by
    rw[aw,QG,al];rfl
   rw[dy] at cf ⊢;refine nxI (by omega) ⟨(k+1,(ts++[nz],p',c'),d0,d7),⟨.cons rfl (.cons rfl (.cons rfl (.cons rfl (.cons rfl (.cons rfl (.cons (by show _=some (i64 (zbp ((p.threads.take (k+1)).map fun l=>(zK V l).length):Nat));rw[dk];rfl) (.cons rfl (.cons rfl (.cons rfl .nil))))))))),rfl⟩,⟨ab,cf,?_,cu.trans ((ad.mono dm).trans (qB bo.own (by omega) (UN _) gV))⟩,zdc (by omega)⟩;rw[aw,QG,QG,hz,a2];show _++[rk.map (·.1)]=_++[zK V l];rw[ap]
  ·have hc:¬(k:Int)<(p.threads.length:Int):=dF hc;obtain rfl:k=p.threads.length:=by omega
   rw[Qn] at hz hS ⊢;exact⟨((ts,pT,cT),ps,cs),(cvE rfl rfl),hS,hz,g⟩
 rintro⟨⟨ts,pT,cT⟩,ps,cs⟩ X ⟨hS,hz,aa⟩;dsimp only at hS hz ⊢;obtain⟨Q,hQ⟩:=nm (X.heap.size);refine⟨Unit,fun _=>⟨[(2,At0 L),(4,At0 (L+1)),(5,At0 (L+2)),(6,At0 (L+3)),(7,.slice ps (p.threads.map fun l=>(zK V l).length).length cs),(13,At0 Q)],[]⟩,fun _ Z=>MxS w.heap.size Z L bP (p.threads.map fun l=>(zK V l).length) ps cs ts pT cT/\Z.heap[Q]?=some (.cells #[.slice none 0 0] 85 (0,0))/\Z.heap.size=Q+1/\Bw w Z,?_,?_⟩
 ·refine⟨(),⟨.cons rfl (.cons rfl (.cons rfl (.cons rfl (.cons rfl (.cons (by rw[hQ];rfl) .nil))))),rfl⟩,hS.below ((zba X _)),by rw[hQ];exact zw X _,by rw[hQ];exact wz _ _,aa.alloc aa.size _⟩
 have eh:w.heap.size+4<=Q:=by have:=hlt hS.f3;omega
 clear hS aa hQ;clear X;rintro _ X ⟨hS,fQ,sX,aa⟩;obtain⟨Ts,av⟩:=nm (p.threads.map (zK V));have ef:Ts.length=p.threads.length:=by rw[av,QD]
 have em:ts.length=p.threads.length:=by have:=UY List.length hz;simpa using this
 have b6:(p.threads.map fun l=>(zK V l).length)=Ts.map List.length:=by rw[av,Uw];rfl
 rw[b6] at hS ⊢;rw[<- av] at hsome hz ⊢;have cg:(Ts.map List.length).length<=1000:=by rw[QD];omega
 have ct:∀n∈Ts.map List.length,n<=1000000:=fun n hn=>by
  rw[av,Uw] at hn;obtain⟨l,hl,rfl⟩:=Uz.1 hn;have:=(hT l hl).m;show((jT l (ded V)).map zbP).length<=_;rw[QD];omega
 have bh:∀z∈ts,∀x∈z.1,PathB p.init.length x.1:=fun z d4 x hx=>by
  have h1:z.1.map (·.1)∈Ts:=by rw[<- hz];exact Uz.2 ⟨z,d4,rfl⟩
  rw[av] at h1;obtain⟨l,hl,he⟩:=Uz.1 h1;exact hpb l hl x.1 (by rw[he];exact Uz.2 ⟨x,hx,rfl⟩)
 refine cmo zod ?_;rintro e V1 ⟨rfl,fo,en,ae⟩;have hI:=zrn fo (hS.own.row.below ae) (fun a j=>by have:=(zx hS.own j).2.1;omega) cg ct;have u:=hS.below ae;have ac:Bw w V1:=zst aa ae;have dt:Gath zh4 92 85 Q V1.heap.size Q V1 (NInM w.heap.size) [] (fun k=>k=Q) V1 :=
  ⟨UN _,rfl,fun k hk=>by omega,⟨none,0,zb ae fQ,OwnS.nil,fun a h=>by cases h⟩,fun x hx=>(by cases hx),UR _ _⟩
 obtain⟨f,hf⟩:∃f:List Nat->Option MixD,f=fun ds=>zja p.init (zbq Ts ds):=⟨_,rfl⟩;have b9:zkB p.init Ts=(zbh (Ts.map List.length)).filterMap f:=by rw[hf];rfl
 refine zcw (zes _) rfl (lb := #[At0 X.heap.size]) rfl rfl hI (UN _) (fun k hk=>⟨?_,rfl⟩) (fun ag vs W ⟨l,q,_,h,_⟩=>by rw[h];rfl) (by decide)
  (fun k=>k=Q) (fun ag F Y=>∃ms,(ms.map (·.m)=ag.filterMap f/\ms.length<=ag.length)/\Gath zh4 92 85 Q V1.heap.size Q V1 (NInM w.heap.size) ms F Y) (fun _ _ _ _=>False) (fun k hk=>?_) (Gath.iter (zhg _) (by omega)) (fun ex=>⟨fun _ _ _ _ h=>h.elim,fun _ _ _ _ h=>h.elim⟩) ⟨[],⟨rfl,UP _⟩,dt⟩ ?_ ?_ ?_
 ·rcases hk with(rfl | ⟨a,j,rfl⟩) | h
  ·omega
  ·have:=(zx hS.own j).2.1;omega
  ·exact h.elim
 ·rcases hk with rfl | ⟨a,j,rfl⟩
  ·omega
  ·obtain⟨_,_,bb,hc⟩:=zx hS.own j;intro e;rw[e,fQ] at hc;simp at hc
 ·rintro yl ag ds vs F Y eg ah d2 ⟨l,qd,bd,rfl,da,b4⟩ er ⟨lo,de⟩;have c8:ds=l:=by simpa using bd
  subst c8;refine⟨rfl,F,KeepsG.refl _ _,d2,?_⟩;rintro O Y2 c5 ⟨ms,⟨bp,db⟩,aj⟩;have bv:SlR zB Y2 qd ds:=by
   rw[c5];refine qE da fun a j=>zj fun e=>?_;obtain⟨bb,a7⟩:=b4 a j;rw[e,de] at a7
   cases a7
  obtain⟨du,co⟩:=zlT (ah.subset (JJ _ (Kv.2 rfl)));have a1:=hsome ds (ah.subset (JJ _ (Kv.2 rfl)));rw[QD] at du;have d8:=aj.size;have old:∀{k:Nat} {ob:Obj},k<Q->V1.heap[k]?=some ob->Y2.heap[k]?=some ob:=fun{k ob} hk h=>(aj.old.block k hk).trans h;have g0:=old (by omega) u.f0;have g3:=old (by omega) u.f3;have kR:∀{α:Type} {E:Enc α} {T cc:Nat} {r:OA} {ll:List α},T≠85->OwnS E T w.heap.size X r cc ll->OwnS E T w.heap.size Y2 r cc ll:=fun{α E T cc r ll} hT h=>h.same fun a j=>by
   have hq:a.block≠Q:=fun e=>by
    obtain⟨_,_,bb,hc⟩:=zx h j;rw[e,fQ] at hc;simp at hc;exact hT hc.2.symm
   have:=(zx h j).2.1;exact(aj.old.block _ (by omega)).trans (ae.block _ this)
  have dd:=kR (by decide) hS.rk;have dl:=fun z hz=>kR (by decide) (hS.n1 z hz);have d1:∀z∈ts,∀x∈z.1,PthO w.heap.size Y2 x:=fun z hz x hx=>(hS.n2 z hz x hx).same fun{α E T c q l} ht ho=>kR (by rcases ht with rfl | rfl <;> decide) ho;have dz:Y2.heap[bP]?=some (.cells pc.toArray 29 (0,0)):=old (by omega) ((ac.block bP dq).trans fP);have a3:Bw w Y2:=ac.trans (aj.old.mono (by omega));refine⟨Nat×List zcO×OA×Nat,fun s=>⟨[(2,At0 L),(6,At0 (L+3)),(13,At0 Q),(15,.slice s.2.2.1 s.2.1.length s.2.2.2),(58,.slice qd ds.length ds.length),(59,i64 ds.length),(60,i64 (s.1:Nat))],[]⟩,
   fun s Z=>s.1<=ds.length/\OwnS ji 145 Y2.heap.size Z s.2.2.1 s.2.2.2 s.2.1/\s.2.1.map (·.1)=zbq (Ts.take s.1) (ds.take s.1)/\s.2.1.length=s.1/\(∀x∈s.2.1,∃z∈ts,x∈z.1)/\Bw Y2 Z,fun s=>ds.length-s.1,(0,[],none,0),
   (cvE rfl rfl),⟨UP _,OwnS.nil,by simp[zbq],rfl,fun x hx=>(by cases hx),UR _ _⟩,?_⟩
  rintro⟨k,Cs,pC,cC⟩ Z ⟨hk,oC,aq,cj,ay,g⟩;dsimp only at hk oC aq cj ay ⊢;have ai:=g.size;refine biE (fun hc=>?_) fun hc=>?_
  ·have hc:(k:Int)<(ds.length:Int):=dT hc;have ab:k<ds.length:=by omega
   have ao:k<ts.length:=by omega
   obtain⟨z,bf⟩:∃z,ts[k]=z:=⟨_,rfl⟩;have cw:z∈ts:=by rw[<- bf];exact gM ao
   have bu:k<Ts.length:=by omega
   have b0:Ts[k]=z.1.map (·.1):=by
    have h1:Ts[k]?=some (z.1.map (·.1)):=(by rw[<- hz,KM,gE ao,bf];rfl);rw[gE bu] at h1;exact QV h1
   obtain⟨d,hd⟩:∃d,ds[k]=d:=⟨_,rfl⟩;have am:d<z.1.length:=by
    have:=co k (Ts[k].length) d (by rw[KM,gE bu];rfl) (by rw[gE ab,hd]);rw[b0,QD] at this;exact this
   obtain⟨x,hx⟩:∃x,z.1[d]=x:=⟨_,rfl⟩;have af:x∈z.1:=by rw[<- hx];exact gM am
   have br:zbq (Ts.take (k+1)) (ds.take (k+1))=zbq (Ts.take k) (ds.take k)++[x.1]:=by
    rw[tsg bu,tsg ab,hd,b0,zfU _ _ _ _ (by rw[Ql,Ql];omega),KM,gE am,hx];rfl
   obtain⟨bD,oD,dv,eb,ch⟩:=(bv.below g).at ab;obtain⟨bT,oT,c6,ep,cp⟩:=(dd.below g).row.at ao;obtain⟨bz,oz,d3,c1,ca⟩:=((dl z cw).below g).row.at am;subst dv;subst c6;refine⟨k,rfl,ab,i64 d,by have:=zc (ch k ab) (i:=0) (v:=i64 d) (by rw[hd];rfl);exact this,_,zc (za (zb g g3)) (i:=0) rfl,k,rfl,ao,.slice z.2.1 z.1.length z.2.2,by have:=zc (cp k ao) (i:=0) (v := .slice z.2.1 z.1.length z.2.2) (by rw[bf];rfl);exact this,?_⟩;rw[d3];refine⟨d,rfl,am,ji.enc x,ji.len x,by rw[<- hx];exact ca d am,c1,?_⟩;refine⟨⟨by decide,by decide,rfl⟩,ji.enc x,zar (ji.len x) rfl,?_⟩;have ad:Bw Z (Z.alloc (.cells (ji.enc x).toArray 145)):=zba _ _;have dh:=ad.size;unfold zcA jP;show SatR _ _;refine ztQ (oC.below ad) (qq ji x) (by omega) (by omega) fun p' c' U oU gU a9=>nxI (by omega) ⟨(k+1,Cs++[x],p',c'),(cvE rfl rfl),⟨ab,oU,by rw[QG,aq,br];rfl,by rw[lap,cj];rfl,fun y hy=>?_,g.trans ((ad.mono ai).trans (qB (oC.below ad) (by omega) (UN _) gU))⟩,zdc (by omega)⟩;rcases QH.1 hy with hy | hy
   ·exact ay y hy
   ·rw[Kv.1 hy];exact⟨z,cw,af⟩
  have hc:¬(k:Int)<(ds.length:Int):=dF hc;obtain rfl:k=ds.length:=by omega
  rw[Qn,JB (by omega)] at aq;obtain⟨q1,k1,q2,k2,q3,k3,q4,k4,hvs,_⟩:=c0.v.h;have cl:pc[1]?=some (.slice q1 p.init.length k1):=by rw[hvs,<- hil];rfl
  have cy:w.heap.size<=Z.heap.size:=by have:=a3.size;omega
  refine⟨_,zc (za (zb g g0)) (i:=0) rfl,?_⟩;obtain⟨mx,cd⟩:∃mx,zja p.init (Cs.map (·.1))=some mx:=by
   rw[aq];exact Option.isSome_iff_exists.1 a1
  have dx:f ds=some mx:=by rw[hf,<- cd,aq]
  refine cmo (zk2 (zb g dz) cl h2 ((bl.below (((zst a3 g)).mono hB)).slr (by omega)) hi6 oC.row (fun x hx=>?_) (fun x hx=>?_) (by omega)) ?_
  ·obtain⟨z,bk,bg⟩:=ay x hx;obtain⟨o1,o2,o3,o4⟩:=d1 z bk x bg;refine⟨fun a j=>?_,(o1.below g).row,(o2.below g).row,(o3.below g).row,(o4.below g).row⟩;rcases j with j | j | j
   ·exact(zx (o2.below g) j).2.1
   ·exact(zx (o3.below g) j).2.1
   ·exact(zx (o4.below g) j).2.1
  ·obtain⟨z,bk,bg⟩:=ay x hx;exact bh z bk x bg
  rintro e U ⟨⟨vs,a5⟩,ar⟩;rw[cd] at a5;obtain⟨rfl,x1,x2,x3,x4,y1,y2,y3,y4,dn,dr,cq,m1,m2,m3,m4,m5,m6,m7,m8⟩:=a5;obtain⟨nx,bq⟩:∃nx:MixX,nx=⟨mx,x1,y1,x2,y2,x3,y3,x4,y4,dn,dr⟩:=⟨_,rfl⟩;have ak:vs=zh4.enc nx:=by rw[cq,bq];rfl
  have be:vs.length=336:=by rw[ak];exact zh4.len nx
  have hv1:vs.all Value.oneCell'=true:=by rw[ak];exact zjb nx
  have ej:=ar.size;refine zr (X:=U) (v := .agg vs.toArray) k92 be jG hv1 fun V' cn fV sV=>?_;have fV:V'.heap[U.heap.size]?=some (.cells vs.toArray 92 (0,0)):=fV;refine brF ?_;have au:Bw Y2 V':=(g.trans (ar.mono ai)).trans (cn.mono (by omega));obtain⟨pr,cr,h4,h5,h6⟩:=aj.row;refine⟨_,zc (za (zb au h4)) (i:=0) rfl,vs,be,za fV,hlt fV,⟨by decide,by decide,jG⟩,zh4.enc nx,by rw[<- ak];exact zar be jG,?_⟩;have dc:ag.length<1000000000:=by
   obtain⟨t,ht⟩:=ah;have h7:(ag++[ds]++t).length=z8 (Ts.map List.length).reverse:=by
    rw[ht];unfold zbh;rw[QD,KN]
   have h8:z8 (Ts.map List.length).reverse<=4096:=by
    have h9:=hall p.threads.length (UN _);rw[Qn,b6] at h9;rw[zmw];exact h9
   simp only[lap,Qj] at h7;omega
  have dw:∀(G:Nat->Prop) (S:Wd),(∀k,Y2.heap.size<=k->k<V'.heap.size->S.heap[k]?=V'.heap[k]?)->(∀k,Y2.heap.size<=k->k<V'.heap.size->G k)->NInM w.heap.size G S nx:=by
   intro G S hs hg;have kp:∀{α:Type} {E:Enc α} {T cc:Nat} {r:OA} {ll:List α},OwnS E T Z.heap.size U r cc ll->RowIn E T w.heap.size G S r cc ll:=fun{α E T cc r ll} h=>by
    have ol:∀a,r=some a->Y2.heap.size<=a.block/\a.block<V'.heap.size:=fun a j=>⟨by have:=(zx h j).1;omega,by have:=(zx h j).2.1;omega⟩;exact⟨OwnS.lower ((h.below cn).same fun a j=>hs _ (ol a j).1 (ol a j).2) cy,fun a j=>hg _ (ol a j).1 (ol a j).2⟩
   rw[bq];exact⟨m3,m6,kp m1,kp m2,kp m4,fun y hy=>kp (m5 y hy),kp m7,fun y hy=>kp (m8 y hy)⟩
  obtain⟨v,Y5,b1,S,bc,F',dg,cz,d9⟩:=aj.step (P:=PG) (ty:=85) (cap1:=1) (zhg _) (by decide) Tryz.underlying85 k92 rfl rfl (by show _=336;exact jG) k85 rfl (by omega) (UN _) au nx (by omega) (by show(ms.length+1)*2488<=_;omega) dw pr cr h4;unfold zcA jP;refine SatR.mk b1 (SatR.mk bc ⟨F',⟨_,⟨?_,by rw[lap,lap];show ms.length+1<=ag.length+1;omega⟩,dg⟩,cz⟩);rw[QG,List.filterMap_append,bp];show _++[nx.m]=_++List.filterMap f [ds];rw[show List.filterMap f [ds]=[mx] by rw[List.filterMap_cons,dx];rfl,bq]
 ·rintro D F Y hD bn ⟨ms,⟨bp,db⟩,hG⟩ a4;obtain⟨pr,cr,h4,h5,h6⟩:=hG.row;have ee:=hG.size;have old:∀{k:Nat} {ob:Obj},k<Q->V1.heap[k]?=some ob->Y.heap[k]?=some ob:=fun{k ob} hk h=>(hG.old.block k hk).trans h;have g1:=old (by omega) u.f1;have g2:=old (by omega) u.f2;refine⟨_,zc (za h4) (i:=0) rfl,zn k85 g1 (o:=0) (v := .slice pr ms.length cr) rfl rfl (by show 0<1;decide) rfl fun Z1 b8 ba di=>zn k4 ((ba.block (L+2) (hlt g2) (by simp)).trans g2) (o:=0) (v := .bool true) rfl rfl (by show 0<1;decide) rfl fun Z2 d5 bi eo=>?_⟩;have k2:∀k,k<Y.heap.size->k≠L+1->k≠L+2->Z2.heap[k]?=Y.heap[k]?:=fun k hk n1 n2=>(bi.block k (by rw[di];exact hk) (by simpa using n2)).trans (ba.block k hk (by simpa using n1));refine⟨_,rfl,(k2 D (hlt a4) (by omega) (by omega)).trans a4,?_⟩;have c4:=(bi.block (L+1) (hlt b8) (by simp)).trans b8;have kp:∀a:Addr,a.block≠L+1->a.block≠L+2->F a.block->a.block<Y.heap.size->(Z2.putObj D (.deferred none)).heap[a.block]?=Y.heap[a.block]?:=fun a n1 n2 h2 h3=>(zj fun e=>by rw[<- e] at bn;exact bn h2).trans (k2 _ h3 n1 n2);have bt:=ac.trans (hG.old.mono (by omega));have b2:=(bt.trans (zm ba bt.size (by omega))).trans (zm bi (by have:=bt.size;omega) (by omega));have ne:∀{α:Type} {E:Enc α} {T B' cc:Nat} {r:OA} {ll:List α},T≠85->T≠4->OwnS E T B' Y r cc ll->∀a,r=some a->a.block≠L+1/\a.block≠L+2:=fun{α E T B' cc r ll} t1 t2 h a j=>by
   obtain⟨_,_,bb,hc⟩:=zx h j;refine⟨fun e=>?_,fun e=>?_⟩
   ·rw[e,g1] at hc;simp at hc;exact t1 hc.2.symm
   ·rw[e,g2] at hc;simp at hc;exact t2 hc.2.symm
  refine⟨.slice pr ms.length cr,zc (za ((zj (by omega)).trans c4)) (i:=0) rfl,.bool true,zc (za ((zj (by omega)).trans d5)) (i:=0) rfl,⟨ms,pr,cr,rfl,by rw[bp,b9],?_,fun x hx=>?_⟩,qh b2 (by omega) _⟩
  ·exact OwnS.lower (h5.same fun a j=>kp a (ne (by decide) (by decide) h5 a j).1 (ne (by decide) (by decide) h5 a j).2 (h6 a j) (zx h5 j).2.1) (by omega)
  ·exact(hG.nest x hx).same fun{α E T c q l} t1 t2 t3 hr=>⟨hr.own.same fun a j=>kp a (ne t2 t3 hr.own a j).1 (ne t2 t3 hr.own a j).2 (hr.inF a j) (zx hr.own j).2.1,fun a j=>(zx hr.own j).1⟩
 ·rintro D ex ag F Y hD bn ah h;exact h.elim
end
abbrev jx (p:Prg) (V:List UInt8):List MixD:=zkB p.init (p.threads.map (zK V))
def jN (m:MixD):List ExD:=if zcM m 1=0 then[] else zeU m
abbrev jz (p:Prg) (V:List UInt8):List ExD:=(jx p V).flatMap jN
structure CandQ (p:Prg) (n:Nat) (V:List UInt8) (most:Nat):Prop where
 ok:zbr p=true
 il:p.locs.length=p.init.length
 i1:1<=p.init.length
 i6:p.init.length<=6
 is:zdj p.init=true
 vals:zeW p.threads n (ded p.init)=some V
 v1:1<=V.length
 v12:V.length<=12
 vs:zdj V=true
 d12:(ded V).length<=12
 t4:p.threads.length<=4
 th:∀l∈p.threads,ThrQ V l
 all:∀k,k<=p.threads.length->zbp ((p.threads.take k).map fun l=>(zK V l).length)<=4096
 pb:∀l∈p.threads,∀P∈zK V l,PathB p.init.length P
 some:∀ds∈zbh ((p.threads.map (zK V)).map List.length),(zja p.init (zbq (p.threads.map (zK V)) ds)).isSome=true
 ml:(jx p V).length<=5000
 mb:∀m∈jx p V,MixB m
 m20:most<=20000
 cnt:((jx p V).map fun m=>zcM m 20001).sum<=most
 len:(jz p V).length<=30000
theorem znE{l:List Nat}(k:Nat):(l.take k).sum<=l.sum:=by
 have:l.sum=(l.take k).sum+(l.drop k).sum:=by rw[<- List.sum_append,JL]
 omega
theorem zqV{m:MixD}{xs ys:List zaj}{lim:Nat}(h1:xs.map (·.1)=m.rs.map (·.2))(h2:ys.map (·.1)=m.wr):zo0 lim (xs.map (·.1)) (ys.map (·.1))=zcM m lim:=by
 rw[h1,h2];rfl
section
variable{w:Wd}{B n most:Nat}{pc:List Value}{p:Prg}{V:List UInt8}
theorem zri(hB:B<=w.heap.size)(hP:PrgX B w pc p)(hG:GlobE w)(hQ:CandQ p n V most) :
  Calls PG 8 #[.agg pc.toArray,i64 most] w fun e w'=>(∃(xs:List zig) (q:OA) (c:Nat),e = .returned (.tuple #[.slice q xs.length c,i64 0])/\xs.map (·.1)=jz p V/\OwnS exE 78 w.heap.size w' q c xs/\∀x∈xs,OwnS evE 80 w.heap.size w' x.2.1 x.2.2 x.1.ev)/\Bw w w':=by
 refine qg 74 [.agg pc.toArray,i64 most] (.c .p (.s .p (.s .p (.s .p (.c .p (.s .p (.s .p (.c .p (.c .p (.c .p .p)))))))))) Tryz.func8 ?_;obtain⟨L,hL⟩:=nm (w.heap.size);have a0:=hP.v.size;have a8:=hQ.m20;refine⟨Unit,fun _=>⟨[(1,i64 most),(2,At0 L)],[]⟩,fun _ X=>X.heap[L]?=some (.cells pc.toArray 29 (0,0))/\L<X.heap.size/\Bw w X,⟨(),⟨.cons rfl (.cons (by rw[hL];rfl) .nil),rfl⟩,by rw[hL];exact zw w _,by rw[hL];exact hlt (zw w _),(zba w _)⟩,?_⟩;rintro _ X ⟨f0,sX,z⟩;refine brN (QX (by omega)) (brN (QX (by omega)) ⟨pc,a0,za f0,hlt f0,cmo (zfv (UC hB z.size) (hP.v.below (z.mono hB)) (hG.c.below z)) ?_⟩);rintro e Y ⟨m,rfl,hm,ag⟩;have a2:m=0:=hm.2 hQ.ok;subst a2;refine brF ?_;have ak:=zst z ag;have f0:=zb ag f0;refine⟨pc,a0,za f0,hlt f0,cmo (zph (UC hB ak.size) (hP.below (ak.mono hB)) (hG.below ak) hQ.ok (fun l hl=>(hQ.th l hl).ex) (fun l hl=>(hQ.th l hl).l12) hQ.i1 (by have:=hQ.i6;omega) hQ.is hQ.vals) ?_⟩;rintro e Z ⟨⟨qv,cv,rfl,oV⟩,f⟩;refine brF ?_;have ae:=zst ak f;have f0:=zb f f0;clear z ag ak;obtain⟨V0,bb⟩:=nm (V);refine⟨List MixX×OA×Nat,fun s=>⟨[(1,i64 most),(8,.slice s.2.1 s.1.length s.2.2),(9,.bool true)],[]⟩,fun s U=>s.1.map (·.m)=jx p V/\OwnS zh4 92 w.heap.size U s.2.1 s.2.2 s.1/\(∀x∈s.1,NInM w.heap.size (fun k=>w.heap.size<=k) U x)/\Bw w U,?_,?_⟩
 ·refine cmo (zp7 f0 (UC hB ae.size) (hP.below (ae.mono hB)) hQ.il hQ.i6 (hG.below ae) oV.row hQ.v1 hQ.v12 hQ.vs hQ.d12 hQ.t4 hQ.th (znq hQ.vals) hQ.all hQ.pb hQ.some) ?_;rintro e U ⟨⟨d,q,c,rfl,ac,oM,nM⟩,ab⟩;exact⟨(d,q,c),(cvE rfl rfl),ac,oM.lower ae.size,fun x j=>(nM x j).lower ae.size,(zst ae ab)⟩
 clear oV f ae f0;rintro⟨d,q,c⟩ X ⟨ac,oM,nM,z⟩;dsimp only at ac oM nM ⊢;refine brF ?_;have ba:d.length<=5000:=by have:=hQ.ml;rw[<- ac,QD] at this;exact this
 have a1:∀x∈d,MixB x.m:=fun x j=>hQ.mb x.m (by rw[<- ac];exact Uz.2 ⟨x,j,rfl⟩);have a9:(d.map fun x=>zcM x.m 20001).sum<=most:=by
  have:=hQ.cnt;rw[<- ac,Uw] at this;exact this
 have ap:∀k,((d.take k).map fun x=>zcM x.m 20001).sum<=most:=fun k=>by
  have:=znE (l:=d.map fun x=>zcM x.m 20001) k;rw[<- List.map_take] at this;omega
 obtain⟨am,aw⟩:=nm ((d.map fun x=>zcM x.m 20001).sum);have cnt:∀{Z:Wd} {k lim:Nat} (hk:k<d.length),OwnS zh4 92 w.heap.size Z q c d->(∀x∈d,NInM w.heap.size (fun k=>w.heap.size<=k) Z x)->1<=lim->lim<=100000->∃b o,q=some ⟨b,o,none⟩/\Calls PG 27 #[.pointer (some ⟨b,o+k*336,none⟩),i64 lim] Z fun e w'=>e = .returned (i64 (zcM d[k].m lim:Nat))/\Z=w':=fun{Z k lim} hk oM nM h1 h2=>by
  obtain⟨b,o,hq,hb,aj⟩:=oM.row.at hk;have j:=nM d[k] (gM hk);have al:=a1 d[k] (gM hk);have be:d[k].xs.length=d[k].m.rs.length:=by have:=UY List.length j.e2;simpa using this
  have bd:d[k].ys.length=d[k].m.wr.length:=by have:=UY List.length j.e3;simpa using this
  refine⟨b,o,hq,?_⟩;have:=zqN (lim:=lim) (r := .slice d[k].p1 d[k].m.rs.length d[k].c1) (aj k hk) j.r2.own.row j.r3.own.row (fun y hy=>?_) (fun y hy=>?_) (by have:=al.rl;omega) (by have:=al.wl;omega) h1 h2
  ·rw[zqV j.e2 j.e3] at this;exact this
  ·have h3:y.1∈d[k].m.rs.map (·.2):=by rw[<- j.e2];exact Uz.2 ⟨y,hy,rfl⟩
   obtain⟨r,hr,he⟩:=Uz.1 h3;rw[<- he];exact(al.rs r hr).2.1
  ·have h3:y.1∈d[k].m.wr:=by rw[<- j.e3];exact Uz.2 ⟨y,hy,rfl⟩
   have:=(al.wr _ h3).1;omega
 refine⟨Unit,fun _=>⟨[(8,.slice q d.length c),(10,i64 am)],[]⟩,fun _ Z=>X=Z,?_,?_⟩
 ·refine⟨Nat,fun k=>⟨[(1,i64 most),(8,.slice q d.length c),(10,i64 (((d.take k).map fun x=>zcM x.m 20001).sum:Nat)),(40,i64 d.length),(41,i64 (k:Nat))],[]⟩,
   fun k Z=>k<=d.length/\X=Z,fun k=>d.length-k,0,(cvE rfl rfl),⟨UP _,rfl⟩,?_⟩
  rintro k _ ⟨hk,rfl⟩;dsimp only;refine biE (fun hc=>?_) fun hc=>?_
  ·have hc:(k:Int)<(d.length:Int):=dT hc;have i:k<d.length:=by omega
   obtain⟨b,o,hq,u⟩:=cnt (lim:=20001) i oM nM (by decide) (by decide);have af:((d.take (k+1)).map fun x=>zcM x.m 20001).sum=((d.take k).map fun x=>zcM x.m 20001).sum+zcM d[k].m 20001:=by
    rw[tsg i,QG,List.sum_append];show _+(zcM d[k].m 20001+0)=_;rw[UB]
   have h1:=ap (k+1);subst hq;refine⟨k,rfl,i,cmo u ?_⟩;rintro e _ ⟨rfl,rfl⟩;refine⟨((((d.take (k+1)).map fun x=>zcM x.m 20001).sum:Nat):Int),?_,?_⟩
   ·rw[af,Int.natCast_add];exact zg (by omega)
   exact brN (QX (by omega)) (nxI (by omega) ⟨k+1,(cvE rfl rfl),⟨i,rfl⟩,zdc (by omega)⟩)
  ·have hc:¬(k:Int)<(d.length:Int):=dF hc;obtain rfl:k=d.length:=by omega
   rw[Qn,<- aw];exact⟨(),(cvE rfl rfl),rfl⟩
 rintro _ _ rfl;have ao:=z.size;refine⟨OA×Nat,fun s=>⟨[(8,.slice q d.length c),(12,.slice s.1 0 s.2)],[]⟩,fun s Z=>OwnS exE 78 X.heap.size Z s.1 s.2 []/\Bw X Z,?_,?_⟩
 ·exact zcC (E:=exE) Tryz.underlying32 k78 rfl (by show _=333;exact zaF) rfl am (by show 2416*am<=_;omega) (by unfold maxLen;omega) fun Z oZ f sZ=>⟨(some ⟨X.heap.size,0,none⟩,am),(cvE rfl rfl),oZ,f⟩
 rintro⟨p0,c0⟩ Y ⟨oY,ag⟩;dsimp only at oY ⊢;refine⟨List zig×OA×Nat,fun s=>⟨[(12,.slice s.2.1 s.1.length s.2.2)],[]⟩,fun s Z=>s.1.map (·.1)=jz p V/\OwnS exE 78 X.heap.size Z s.2.1 s.2.2 s.1/\(∀x∈s.1,OwnS evE 80 X.heap.size Z x.2.1 x.2.2 x.1.ev)/\Bw X Z,?_,?_⟩
 ·refine⟨Nat×List zig×OA×Nat,fun s=>⟨[(8,.slice q d.length c),(12,.slice s.2.2.1 s.2.1.length s.2.2.2),(57,i64 d.length),(58,i64 (s.1:Nat))],[]⟩,
   fun s Z=>s.1<=d.length/\s.2.1.map (·.1)=(d.take s.1).flatMap (fun x=>jN x.m)/\OwnS exE 78 X.heap.size Z s.2.2.1 s.2.2.2 s.2.1/\(∀x∈s.2.1,OwnS evE 80 X.heap.size Z x.2.1 x.2.2 x.1.ev)/\Bw X Z,fun s=>d.length-s.1,(0,[],p0,c0),
   (cvE rfl rfl),⟨UP _,rfl,oY,fun x j=>(by cases j),ag⟩,?_⟩
  clear oY ag;rintro⟨k,t,po,co⟩ Z ⟨hk,ad,oZ,nZ,f⟩;dsimp only at hk ad oZ nZ ⊢;have au:=f.size;have ay:OwnS zh4 92 w.heap.size Z q c d:=oM.same fun a ha=>f.block _ (zx oM ha).2.1;have az:∀x∈d,NInM w.heap.size (fun k=>w.heap.size<=k) Z x:=fun x j=>(nM x j).same fun{α E T c q l} _ _ _ hr=>⟨hr.own.same fun a ha=>f.block _ (zx hr.own ha).2.1,hr.inF⟩;refine biE (fun hc=>?_) fun hc=>?_
  ·have hc:(k:Int)<(d.length:Int):=dT hc;have i:k<d.length:=by omega
   obtain⟨b,o,hq,u⟩:=cnt (lim:=1) i ay az (by decide) (by decide);obtain⟨x,j⟩:∃x,d[k]=x:=⟨_,rfl⟩;have aq:x∈d:=by rw[<- j];exact gM i
   have af:(d.take (k+1)).flatMap (fun x=>jN x.m)=(d.take k).flatMap (fun x=>jN x.m)++jN x.m:=by
    rw[tsg i,Kb,j,KK,Qg,QA]
   rw[j] at u;have aj:zF Z ⟨b,o+k*336,none⟩ (zmD x):=by
    obtain⟨b',o',an,_,aj⟩:=ay.row.at i;rw[hq] at an;have:=aj k i;simp only[KS,Uj,UX] at an;rw[<- j,an.1,an.2];exact this
   have ar:b<X.heap.size:=(zx oM hq).2.1;subst hq;refine⟨k,rfl,i,cmo u ?_⟩;rintro e _ ⟨rfl,rfl⟩;refine biE (fun h=>?_) fun h=>?_
   ·have h:zcM x.m 1=0:=Uo (dT h);have a3:jN x.m=[]:=Gd h;rw[a3,QA] at af;exact nxI (by omega) ⟨(k+1,t,po,co),(cvE rfl rfl),⟨i,by rw[ad,af],oZ,nZ,f⟩,zdc (by omega)⟩
   have h:zcM x.m 1≠0:=fun e=>(dF h) (by rw[e];rfl);have a5:jN x.m=zeU x.m:=Gc h;rw[a5] at af;refine⟨k,rfl,i,cmo zqZ ?_⟩;rintro e U ⟨rfl,fU,sU,ab⟩;have aa:=az x aq;have av:=a1 x aq;obtain⟨Rd,ai⟩:∃Rd:Nat->Prop,Rd=fun k=>k<X.heap.size\/k=Z.heap.size:=⟨_,rfl⟩;have ah:∀{α:Type} {E:Enc α} {T cc:Nat} {r:OA} {ll:List α},RowIn E T w.heap.size (fun k=>w.heap.size<=k) X r cc ll->∀a,r=some a->Rd a.block:=fun{α E T cc r ll} h a ha=>by rw[ai];exact .inl (zx h.own ha).2.1
   have hX:=nM x aq;have hM:MixM Rd U b (o+k*336) x.m x.q x.c x.p1 x.p2 x.p3 x.c1 x.c2 x.c3 x.xs x.ys:=by
    have r:∀{α:Type} {E:Enc α} {T cc:Nat} {r:OA} {ll:List α},RowIn E T w.heap.size (fun k=>w.heap.size<=k) Z r cc ll->SlR E U r ll:=fun{α E T cc r ll} h=>(h.own.below ab).row;refine⟨zt ab aj,r aa.ev,fun e=>?_,r aa.r1,aa.e2,r aa.r2,fun y hy=>r (aa.n2 y hy),aa.e3,r aa.r3,fun y hy=>r (aa.n3 y hy),by rw[ai];exact .inl ar,ah hX.ev,ah hX.r1,ah hX.r2,ah hX.r3,fun y hy=>ah (hX.n2 y hy),fun y hy=>ah (hX.n3 y hy)⟩;rcases aa.ev.own.inv with⟨_,h,_⟩ | ⟨g,bc,h,_⟩
    ·exact h
    ·rw[e] at h;cases h
   have ax:∀k,Rd k->k<U.heap.size:=fun k hk=>by
    rw[ai] at hk;omega
   have a4:Tz64M U:=hG.t64.below (z.trans ((f.trans (ab.mono au)).mono ao));have bf:=zal hG.t64;have hI:=zq0 hM fU (by rw[ai];exact .inr rfl) ax a4 (by rw[ai];left;omega) av av.ev;have a6:t.length+(zeU x.m).length<=30000:=by
    have h2:=hQ.len;have h3:(jz p V)=d.flatMap (fun x=>jN x.m):=by
     show(jx p V).flatMap jN=_;rw[<- ac,Qf]
    rw[h3] at h2;have h4:d.flatMap (fun x=>jN x.m)=(d.take (k+1)).flatMap (fun x=>jN x.m)++(d.drop (k+1)).flatMap (fun x=>jN x.m):=(by rw[<- Kb,JL]);rw[h4,af,<- ad,lap,lap,QD] at h2;omega
   refine cmo (zj2 (oZ.below ab) (fun y hy=>(nZ y hy).below ab) (by omega) hI (UN _) (fun k hk=>⟨ax k hk,rfl⟩) (fun k hk=>by rw[ai] at hk;exact hk) fU (by omega) a6) ?_;rintro e T ⟨⟨new,pn,cn,rfl,zw,oT,nT⟩,a7⟩;exact nxI (by omega) ⟨(k+1,t++new,pn,cn),(cvE rfl rfl),⟨i,by rw[QG,ad,zw,af],oT,nT,(f.trans (ab.mono au)).trans a7⟩,zdc (by omega)⟩
  ·have hc:¬(k:Int)<(d.length:Int):=dF hc;obtain rfl:k=d.length:=by omega
   rw[Qn] at ad;refine⟨(t,po,co),(cvE rfl rfl),?_,oZ,nZ,f⟩;rw[ad];show d.flatMap _=(jx p V).flatMap jN;rw[<- ac,Qf]
 rintro⟨t,po,co⟩ Z ⟨ad,oZ,nZ,f⟩;exact⟨⟨t,po,co,rfl,ad,oZ.lower ao,fun x j=>(nZ x j).lower ao⟩,z.trans (f.mono ao)⟩
end
def zoQ (x:InsD):Bool:=(decide (x.op=1)&&decide (x.dst.toNat<8))||((decide (x.op=2)&&(!x.ar||decide (x.an.toNat<8)))||decide (x.op=7))
theorem zqC{x:InsD}(h:zoQ x=true):zc7 x:=by
 unfold zoQ at h;simp only[Qx,bAT,dE,KC] at h;rcases h with⟨b,a⟩ | ⟨b,a⟩ | b
 ·exact .inl ⟨b,a⟩
 ·refine .inr (.inl ⟨b,fun h=>?_⟩);rcases a with a | a
  ·rw[h] at a;cases a
  ·exact a
 ·exact .inr (.inr b)
def zn7 (locs:Nat) (P:PathD):Bool :=
 decide (P.ev.length<=24)&&((P.ev.all fun e => !(decide (e.k=1)||decide (e.k=2))||decide (e.l.toNat<locs))&&((P.data.all fun p=>decide (p.1<P.ev.length)&&decide (p.2<P.ev.length))&&((P.ctrl.all fun p=>decide (p.1<P.ev.length)&&decide (p.2<P.ev.length))&&((P.rmw.all fun p=>decide (p.1<P.ev.length)&&decide (p.2<P.ev.length)) &&
  (decide (P.data.length<=100000)&&(decide (P.ctrl.length<=100000)&&decide (P.rmw.length<=100000)))))))
theorem zn6{locs:Nat}{P:PathD}(h:zn7 locs P=true):PathB locs P:=by
 unfold zn7 at h;simp only[bAT,Qx,dE,Qa,KC,Bool.or_eq_false_iff,decide_eq_false_iff_not] at h;obtain⟨k,i,b,j,d,f,l,c⟩:=h;refine⟨k,fun e g a=>?_,b,j,d,f,l,c⟩;rcases i e g with h | h
 ·rcases a with a | a
  ·exact(h.1 a).elim
  ·exact(h.2 a).elim
 ·exact h
def zkY (p:Prg) (n:Nat) (V:List UInt8) (most:Nat):Bool :=
 zbr p&&(decide (p.locs.length=p.init.length)&&(decide (1<=p.init.length)&&(decide (p.init.length<=6)&&(zdj p.init&&(decide (zeW p.threads n (ded p.init)=some V)&&(decide (1<=V.length)&&(decide (V.length<=12)&&(zdj V&&(decide ((ded V).length<=12)&&(decide (p.threads.length<=4) &&
  ((p.threads.all fun l=>decide (l.length<=12)&&(l.all zoQ&&(qX l 6&&decide ((jT l (ded V)).length<=4096)))) &&
   (((List.range (p.threads.length+1)).all fun k=>decide (zbp ((p.threads.take k).map fun l=>(zK V l).length)<=4096)) &&
    ((p.threads.all fun l=>(zK V l).all (zn7 p.init.length)) &&
     (((zbh ((p.threads.map (zK V)).map List.length)).all fun ds=>(zja p.init (zbq (p.threads.map (zK V)) ds)).isSome) &&
      (decide ((jx p V).length<=5000)&&((jx p V).all zok&&(decide (most<=20000)&&(decide (((jx p V).map fun m=>zcM m 20001).sum<=most)&&decide ((jz p V).length<=30000)))))))))))))))))))
theorem zo1{p:Prg}{n:Nat}{V:List UInt8}{most:Nat}(h:zkY p n V most=true):CandQ p n V most:=by
 unfold zkY at h;simp only[bAT,dE,Qa,Ue] at h;obtain⟨h1,u,w,h4,y,h6,s,h8,v,d,c,a,q,f,j,o,g,e,i,r⟩:=h;exact⟨h1,u,w,h4,y,h6,s,h8,v,d,c,fun l b=>⟨(a l b).1,fun x z=>zqC ((a l b).2.1 x z),(a l b).2.2.1,(a l b).2.2.2⟩,fun k hk=>q k (by omega),fun l b P t=>zn6 (f l b P t),j,o,fun m hm=>zp8 (g m hm),e,i,r⟩
theorem ztd:zkY zc6 5 [0,1] 100=true:=by kernel_rfl
theorem zsz:((jz zc6 [0,1]).all zmS&&decide ((jz zc6 [0,1]).length<=100))=true:=by kernel_rfl
theorem zsy:zrr (byL 2 (jz zc6 [0,1])) scL=true:=by kernel_rfl
theorem zq1:zrr (byL 3 (jz zc6 [0,1])) zbA=true:=by kernel_rfl
theorem zs0:zaR (byL 2 (jz zc6 [0,1]))=scL:=ziJ zsy
theorem zrF:zaR (byL 3 (jz zc6 [0,1]))=zbA:=ziJ zq1
theorem zbJ{r:RelD}(h:zfx r=true):zG r.to:=by
 unfold zfx at h;rw[Qa] at h;exact fun i a=>dT (h i (Ue.2 a))
theorem zoK{X:Wd}{x:ExD}{q:OA}(h:zmS x=true)(he:SlR evE X q x.ev):ExV X x q:=by
 unfold zmS at h;simp only[bAT,dE] at h;obtain⟨g,d,a,e,b,c,f⟩:=h;exact⟨he,g,zbJ d,zbJ a,zbJ e,zbJ b,zbJ c,zbJ f⟩
section
variable{w:Wd}{B n most:Nat}{pc:List Value}{p:Prg}{V:List UInt8}{m:UInt8}
theorem ztU(hB:B<=w.heap.size)(hP:PrgX B w pc p)(hG:GlobE w)(hQ:CandQ p n V most)(hx:(jz p V).all zmS=true)(hm:1<=m.toNat/\m.toNat<=6) :
  Calls PG 13 #[.agg pc.toArray,u8 m,i64 most] w fun e w'=>(∃q c,e = .returned (.tuple #[.slice q (zaR (byL m.toNat (jz p V))).length c,i64 0])/\OwnS zA 52 w.heap.size w' q c (zaR (byL m.toNat (jz p V))))/\Bw w w':=by
 refine qg 45 [.agg pc.toArray,u8 m,i64 most] (.c .p (.s .p (.c .p (.s .p (.s .p (.c (.s .p (.b (.l (.s .p (.s .p (.s (.b (.c .p .p)) .p)))))) .p)))))) Tryz.func13 ?_;obtain⟨L,hL⟩:=nm (w.heap.size);have ap:=hP.v.size;obtain⟨M,hM⟩:=nm (m.toNat);rw[<- hM] at hm ⊢;refine⟨Unit,fun _=>⟨[(1,u8 m),(2,i64 most),(3,At0 L)],[]⟩,fun _ X=>X.heap[L]?=some (.cells pc.toArray 29 (0,0))/\Bw w X,⟨(),⟨.cons rfl (.cons rfl (.cons (by rw[hL];rfl) .nil)),rfl⟩,by rw[hL];exact zw w _,(zba w _)⟩,?_⟩;rintro _ X ⟨f0,ab⟩;refine brN (QX (by omega)) (brN (QX (by omega)) ?_);have af:=ab.size;refine⟨List zig×OA×Nat,fun s=>⟨[(1,u8 m),(8,.slice s.2.1 s.1.length s.2.2),(9,i64 0)],[]⟩,fun s Y=>s.1.map (·.1)=jz p V/\OwnS exE 78 X.heap.size Y s.2.1 s.2.2 s.1/\(∀x∈s.1,OwnS evE 80 X.heap.size Y x.2.1 x.2.2 x.1.ev)/\Bw w Y,?_,?_⟩
 ·refine⟨pc,ap,za f0,hlt f0,cmo (zri (UC hB af) (hP.below (ab.mono hB)) (hG.below ab) hQ) ?_⟩;rintro e Y ⟨⟨d,q,c,rfl,h1,h2,h3⟩,t⟩;exact⟨(d,q,c),(cvE rfl rfl),h1,h2,h3,ab.trans (t.mono af)⟩
 rintro⟨d,q,c⟩ Y ⟨aa,oX,aj,t⟩;dsimp only at aa oX aj ⊢;refine brF ?_;obtain⟨D,hD⟩:=nm (Y.heap.size);have au:d.length<=30000:=by
  have:=UY List.length aa;rw[QD] at this;have:=hQ.len;omega
 refine⟨List FinV×OA×Nat,fun s=>⟨[(10,.slice s.2.1 s.1.length s.2.2)],[]⟩,fun s Z=>s.1=byL M (jz p V)/\s.1.length<=30000/\OwnS zA 52 D Z s.2.1 s.2.2 s.1/\Below D Y Z,?_,?_⟩
 ·refine⟨Nat×List FinV×OA×Nat,fun s=>⟨[(1,u8 m),(10,.slice s.2.2.1 s.2.1.length s.2.2.2),(28,.slice q d.length c),(29,i64 d.length),(30,i64 (s.1:Nat))],[]⟩,
   fun s Z=>s.1<=d.length/\s.2.1=byL M ((d.take s.1).map (·.1))/\s.2.1.length<=s.1/\OwnS zA 52 D Z s.2.2.1 s.2.2.2 s.2.1/\Below D Y Z,fun s=>d.length-s.1,(0,[],none,0),
   (cvE rfl rfl),⟨UP _,rfl,UN _,OwnS.nil,by rw[hD];exact UR _ _⟩,?_⟩
  rintro⟨k,a,po,co⟩ Z ⟨hk,f,ae,oZ,u⟩;dsimp only at hk f ae oZ ⊢;have al:D<=Z.heap.size:=by have:=u.size;omega
  refine biE (fun hc=>?_) fun hc=>?_
  ·have hc:(k:Int)<(d.length:Int):=dT hc;have i:k<d.length:=by omega
   obtain⟨bx,ox,hq,aw,ak⟩:=oX.row.at i;obtain⟨y,hy⟩:∃y,d[k]=y:=⟨_,rfl⟩;have ai:y∈d:=by rw[<- hy];exact gM i
   have ag:(d.take (k+1)).map (·.1)=(d.take k).map (·.1)++[y.1]:=by rw[tsg i,hy,QG];rfl
   have j:=ak k i;rw[hy] at j;have j:zF Y ⟨bx,ox+k*333,none⟩ (exC y.1 y.2.1 y.2.2):=j;have am:zmS y.1=true:=Qa.1 hx _ (by rw[<- aa];exact Kg ai);subst hq;refine⟨Nat,fun s=>⟨[(1,u8 m),(10,.slice po a.length co),(12,At0 s),(28,.slice (some ⟨bx,ox,none⟩) d.length c),(29,i64 d.length),(30,i64 (k:Nat))],[]⟩,
    fun s U=>ExH U s y.1 y.2.1 y.2.2/\Bw Z U,?_,?_⟩
   ·refine⟨k,rfl,i,exC y.1 y.2.1 y.2.2,zM _ _ _,q5 u (by show bx<D;omega) j,by show bx<_;omega,?_⟩;exact zr (X:=Z) (v := .agg (exC y.1 y.2.1 y.2.2).toArray) k78 (zM _ _ _) zaF (zbt _ _ _) fun U r fU sU=>⟨Z.heap.size,(cvE rfl rfl),fU,r⟩
   rintro bu U ⟨fU,r⟩;have o:=u.trans (r.mono al);have ah:Bw w U:=t.trans (o.mono (by have:=t.size;omega));refine⟨exC y.1 y.2.1 y.2.2,zM _ _ _,za fU,hlt fU,cmo (zrf ((zoK am ((aj y ai).row.below (by show Below _ _ _;rw[<- hD];exact o))).w) (hG.below ah).t64) ?_⟩;rw[<- hM];rintro e T ⟨rfl,ac⟩;have fT:=zb ac fU;have oT:=(oZ.below r).below ac;have z:=o.trans (ac.mono (by have:=o.size;omega));have an:D<=T.heap.size:=by have:=z.size;omega
   refine biE (fun h=>?_) fun h=>?_
   ·refine⟨zA.enc (zgr y.1),zA.len _,zqB fT,hlt fT,⟨by decide,by decide,rfl⟩,zA.enc (zgr y.1),zar (zA.len _) rfl,?_⟩;have ad:Bw T (T.alloc (.cells (zA.enc (zgr y.1)).toArray 52)):=zba _ _;have ar:=ad.size;unfold zcA jP;show SatR _ _;exact qQ Tryz.underlying40 k52 rfl rfl rfl (oT.below ad) (news:=[zgr y.1]) rfl (qq zA (zgr y.1)) (by omega) (by show a.length+1<=_;omega) (by show(a.length+1)*38<=_;omega) fun p' c' S oS gS ao aq=>nxI (by omega) ⟨(k+1,a++[zgr y.1],p',c'),(cvE rfl rfl),⟨i,by rw[ag,zjO,Gd h,f],by rw[lap];show _+1<=_;omega,oS,(z.trans (ad.mono an)).trans ao⟩,zdc (by omega)⟩
   ·exact nxI (by omega) ⟨(k+1,a,po,co),(cvE rfl rfl),⟨i,by rw[ag,zjO,Gc (by rw[h];decide),f];simp,by show a.length<=k+1;omega,oT,z⟩,zdc (by omega)⟩
  ·have hc:¬(k:Int)<(d.length:Int):=dF hc;obtain rfl:k=d.length:=by omega
   rw[Qn,aa] at f;exact⟨(a,po,co),(cvE rfl rfl),f,by show a.length<=30000;omega,oZ,u⟩
 rintro⟨a,po,co⟩ Z ⟨rfl,ae,oZ,u⟩;dsimp only at ae oZ ⊢;have av:=t.size;have hb:=t.trans (u.mono (by omega));refine cmo (zpj oZ.row (by omega) (fun h=>by
  rcases oZ.inv with⟨_,h2,_⟩ | ⟨g,ax,h2,_⟩
  ·exact h2
  ·rw[h] at h2;cases h2)) ?_
 rintro e U ⟨q2,c2,rfl,oU,r⟩;exact⟨⟨q2,c2,rfl,oU.lower hb.size⟩,(zst hb r)⟩
end
section
variable{w:Wd}
theorem zo4{X:Wd}{m:UInt8}{vs:List Value}{l:List FinV}(hG:GlobE X)(hP:PrgX X.heap.size X vs zc6)(hm:1<=m.toNat/\m.toNat<=6)(hl:zaR (byL m.toNat (jz zc6 [0,1]))=l):Calls PG 13 #[.agg vs.toArray,u8 m,i64 (100:Nat)] X fun e Y =>
  ∃s:OA×Nat,e = .returned (.tuple #[.slice s.1 l.length s.2,i64 0])/\FsV Y l s/\Bw X Y:=by
 have b:(jz zc6 [0,1]).all zmS=true:=(bAT _ _▸zsz:_/\_).1;refine(ztU (n:=5) (V:=[0,1]) (most:=100) (m:=m) (UN _) hP hG (zo1 ztd) b hm).mono ?_;rintro e Y ⟨⟨q,c,rfl,a⟩,d⟩;rw[hl] at a ⊢;exact⟨(q,c),rfl,⟨a.row,zn8 a⟩,d⟩
end
section
variable{w:Wd}
theorem zpc(hG:GlobE w):CB 12 #[] w (.bool true):=by
 refine qg 125 [] (.s .p (.c .p (.c .p (.c .p (.c .p (.c .p (.c .p (.c .p (.c .p .p))))))))) Tryz.func12 ?_;refine⟨OA×Nat,fun s=>⟨[(1,.slice s.1 scL.length s.2),(2,i64 0)],[]⟩,fun s X=>FsV X scL s/\Bw w X,?_,?_⟩
 ·refine cmo zbw ?_;rintro e X ⟨⟨vs,rfl,hP⟩,o⟩;refine cmo (zo4 (m:=2) (hG.below o) hP (by decide) zs0) ?_;rintro e Y ⟨s,rfl,hs,h⟩;exact⟨s,(cvE rfl rfl),hs,(zst o h)⟩
 rintro i X1 ⟨d,o⟩;refine⟨OA×Nat,fun s=>⟨[(1,.slice i.1 scL.length i.2),(2,i64 0),(3,.slice s.1 zbA.length s.2),(4,i64 0)],[]⟩,fun s X=>FsV X scL i/\FsV X zbA s/\Bw w X,?_,?_⟩
 ·refine cmo zbw ?_;rintro e X ⟨⟨vs,rfl,hP⟩,h⟩;have l:=zst o h;refine cmo (zo4 (m:=3) (hG.below l) hP (by decide) zrF) ?_;rintro e Y ⟨s,rfl,hs,x⟩;exact⟨s,(cvE rfl rfl),(d.below h).below x,hs,(zst l x)⟩
 clear d o X1;rintro u X ⟨d,f,j⟩;refine⟨Unit,fun _=>⟨[(1,.slice i.1 scL.length i.2),(2,i64 0),(3,.slice u.1 zbA.length u.2),(4,i64 0),(6,i64 2)],[]⟩,fun _ X=>FsV X scL i/\FsV X zbA u/\Bw w X,?_,?_⟩
 ·refine cmo zbw ?_;rintro e Y ⟨⟨vs,rfl,hP⟩,h⟩;refine cmo (zsM (most:=100) hP.v.size) ?_;rintro e Z ⟨rfl,x⟩;have ac:=zst h x;exact⟨(),(cvE rfl rfl),d.below ac,f.below ac,(zst j ac)⟩
 clear d f j X;rintro _ X ⟨d,f,j⟩;refine⟨Nat×Nat,fun s=>⟨[(1,.slice i.1 scL.length i.2),(2,i64 0),(3,.slice u.1 zbA.length u.2),(4,i64 0),(6,i64 2),(7,At0 s.2)],[]⟩,fun s X=>FsV X scL i/\FsV X zbA u/\Bw w X/\X.heap[s.2]?=some (.cells (zu zbi (some ⟨s.1,0,none⟩) 2).toArray 27 (0,0))/\KidsG X.heap.size X (some ⟨s.1,0,none⟩) zhB,?_,?_⟩
 ·refine cmo (zrl (t:=0) (n:=0) (v:=0)) ?_;rintro e Y1 ⟨rfl,o⟩;refine cmo (zrl (t:=1) (n:=0) (v:=0)) ?_;rintro e Y2 ⟨rfl,h⟩;refine⟨⟨by decide,by decide,rfl⟩,zu (.mk 1 0 0 0 []) none 0++zu (.mk 1 1 0 0 []) none 0,by kernel_rfl,?_⟩;have f3:=zw Y2 (.cells (zu (.mk 1 0 0 0 []) none 0++zu (.mk 1 1 0 0 []) none 0).toArray 27);have x:Bw Y2 (Y2.alloc (.cells (zu (.mk 1 0 0 0 []) none 0++zu (.mk 1 1 0 0 []) none 0).toArray 27)):=zba _ _;refine cmo (zp4 (k:=3) (kids:=zhB) (q:=some ⟨Y2.heap.size,0,none⟩) (cap:=2)) ?_;rintro e Y4 ⟨rfl,b4⟩;have f4:=zb b4 f3;refine zr (X:=Y4) (v:=zaC zbi (some ⟨Y2.heap.size,0,none⟩) 2) k27 rfl rfl rfl fun U ae fU sU=>?_;have b:=(((zst o h)).trans (x.mono ((zst o h)).size));have bb:=zst b b4;have bU:=zst bb ae;exact⟨(Y2.heap.size,Y4.heap.size),(cvE rfl rfl),d.below bU,f.below bU,(zst j bU),fU,zmK (zb ae f4)⟩
 clear d f j X;rintro⟨g,b7⟩ X ⟨d,f,j,z,hk⟩;dsimp only at z hk;obtain⟨q7,ai⟩:=nm ((some ⟨g,0,none⟩:OA));rw[<- ai] at z hk;refine⟨Unit,fun _=>⟨[(1,.slice i.1 scL.length i.2),(2,i64 0),(3,.slice u.1 zbA.length u.2),(4,i64 0),(6,i64 2),(7,At0 b7),(8,.bool false),(9,i64 0)],[]⟩,fun _ X=>FsV X scL i/\FsV X zbA u/\Bw w X/\X.heap[b7]?=some (.cells (zu zbi q7 2).toArray 27 (0,0))/\KidsG X.heap.size X q7 zhB,?_,?_⟩
 ·refine⟨zu zbi q7 2,rfl,za z,hlt z,cmo (zgH (ask:=1) (c:=zbi) hk d.1 (by decide) d.2) ?_⟩;rw[zpK,zli 1 (by decide)];rintro e Y ⟨rfl,b⟩;exact⟨(),(cvE rfl rfl),d.below b,f.below b,(zst j b),zb b z,(hk.kept b).wider b.size⟩
 clear d f j z hk X;rintro _ X ⟨d,f,j,z,hk⟩;refine⟨Unit,fun _=>⟨[(1,.slice i.1 scL.length i.2),(2,i64 0),(3,.slice u.1 zbA.length u.2),(4,i64 0),(6,i64 2),(7,At0 b7),(8,.bool false),(9,i64 0),(10,.bool true),(11,i64 0)],[]⟩,fun _ X=>FsV X scL i/\FsV X zbA u/\Bw w X/\X.heap[b7]?=some (.cells (zu zbi q7 2).toArray 27 (0,0))/\KidsG X.heap.size X q7 zhB,?_,?_⟩
 ·refine⟨zu zbi q7 2,rfl,za z,hlt z,cmo (zgH (ask:=2) (c:=zbi) hk d.1 (by decide) d.2) ?_⟩;rw[zpJ,zli 2 (by decide)];rintro e Y ⟨rfl,b⟩;exact⟨(),(cvE rfl rfl),d.below b,f.below b,(zst j b),zb b z,(hk.kept b).wider b.size⟩
 clear d f j z hk X;rintro _ X ⟨d,f,j,z,hk⟩;refine⟨Unit,fun _=>⟨[(1,.slice i.1 scL.length i.2),(2,i64 0),(3,.slice u.1 zbA.length u.2),(4,i64 0),(6,i64 2),(8,.bool false),(9,i64 0),(10,.bool true),(11,i64 0),(12,.bool true),(13,i64 1)],[]⟩,fun _ X=>FsV X scL i/\FsV X zbA u/\Bw w X,?_,?_⟩
 ·refine⟨zu zbi q7 2,rfl,za z,hlt z,cmo (zgH (ask:=1) (c:=zbi) hk f.1 (by decide) f.2) ?_⟩;rw[zny,znx];rintro e Y ⟨rfl,b⟩;exact⟨(),(cvE rfl rfl),d.below b,f.below b,(zst j b)⟩
 clear d f j z hk X;rintro _ X ⟨d,f,j⟩;refine⟨Unit,fun _=>⟨[(1,.slice i.1 scL.length i.2),(2,i64 0),(3,.slice u.1 zbA.length u.2),(4,i64 0),(6,i64 2),(8,.bool false),(9,i64 0),(10,.bool true),(11,i64 0),(12,.bool true),(13,i64 1),(14,.bool false)],[]⟩,fun _ X=>FsV X scL i/\FsV X zbA u/\Bw w X,?_,?_⟩
 ·refine cmo (zp4 (k:=5) (kids:=[]) (q:=none) (cap:=0)) ?_;rintro e Y1 ⟨rfl,o⟩;refine cmo (zcz (a:=0) (b:=0)) ?_;rintro e Y2 ⟨rfl,h⟩;refine cmo (zeo (F:=zV 0 0) (c := .mk 5 0 0 0 []) (q:=none) (cap:=0) .empty) ?_;rintro e Y3 ⟨rfl,x⟩;have y:=((zst o h)).trans (x.mono ((zst o h)).size);refine brF (cmo (zp4 (k:=3) (kids:=[]) (q:=none) (cap:=0)) ?_);rintro e Y4 ⟨rfl,b4⟩;refine cmo (zcz (a:=0) (b:=0)) ?_;rintro e Y5 ⟨rfl,b5⟩;refine cmo (zeo (F:=zV 0 0) (c := .mk 3 0 0 0 []) (q:=none) (cap:=0) .empty) ?_;rintro e Y6 ⟨rfl,b6⟩;have af:=((zst b4 b5)).trans (b6.mono ((zst b4 b5)).size);refine brF (cmo (zp4 (k:=4) (kids:=[]) (q:=none) (cap:=0)) ?_);rintro e Y7 ⟨rfl,b7⟩;refine cmo (zcz (a:=0) (b:=0)) ?_;rintro e Y8 ⟨rfl,b8⟩;refine cmo (zeo (F:=zV 0 0) (c := .mk 4 0 0 0 []) (q:=none) (cap:=0) .empty) ?_;rintro e Y9 ⟨rfl,b9⟩;have ah:=((zst b7 b8)).trans (b9.mono ((zst b7 b8)).size);have ag:=zst y af;have ab:=zst ag ah;exact⟨(),(cvE rfl rfl),d.below ab,f.below ab,(zst j ab)⟩
 clear d f j X;rintro _ X ⟨d,f,j⟩;refine brT (brT (brT (cmo (zcz (a:=0) (b:=1)) ?_)));rintro e Y1 ⟨rfl,o⟩;refine cmo (zcz (a:=1) (b:=0)) ?_;rintro e Y2 ⟨rfl,h⟩;refine cmo (zcz (a:=1) (b:=1)) ?_;rintro e Y3 ⟨rfl,x⟩;refine⟨⟨by decide,by decide,rfl⟩,zA.enc (zV 0 1)++(zA.enc (zV 1 0)++zA.enc (zV 1 1)),by kernel_rfl,?_⟩;have f4:=zw Y3 (.cells (zA.enc (zV 0 1)++(zA.enc (zV 1 0)++zA.enc (zV 1 1))).toArray 52);have b4:Bw Y3 (Y3.alloc (.cells (zA.enc (zV 0 1)++(zA.enc (zV 1 0)++zA.enc (zV 1 1))).toArray 52)):=zba _ _;have r4:SlR zA (Y3.alloc (.cells (zA.enc (zV 0 1)++(zA.enc (zV 1 0)++zA.enc (zV 1 1))).toArray 52)) (some ⟨Y3.heap.size,0,none⟩) [zV 0 1,zV 1 0,zV 1 1]:=(RowB.slr (.inr ⟨_,0,rfl,hlt f4,by
  have e:[zV 0 1,zV 1 0,zV 1 1].flatMap zA.enc=zA.enc (zV 0 1)++(zA.enc (zV 1 0)++zA.enc (zV 1 1)):=by simp[KK]
  rw[e];exact za f4⟩) (UN _))
 have l:=zst o h;have y:=zst l x;have aa:=zst y b4;refine cmo (zjY (la:=scL) (lb:=[zV 0 1,zV 1 0,zV 1 1]) (ca:=i.2) (cb:=3) (d.1.below aa) r4 (by decide)) ?_;rw[Uh (show scL=[zV 0 1,zV 1 0,zV 1 1] from rfl)];rintro e Y5 ⟨rfl,b5⟩;have f:=(f.below aa).below b5;have bY:=j.trans (((zst aa b5)).mono j.size);clear l y aa o h x b4 b5 r4 f4 d j;refine brT (cmo (zcz (a:=0) (b:=0)) ?_);rintro e Z1 ⟨rfl,o⟩;refine cmo (zcz (a:=0) (b:=1)) ?_;rintro e Z2 ⟨rfl,h⟩;refine cmo (zcz (a:=1) (b:=0)) ?_;rintro e Z3 ⟨rfl,x⟩;refine cmo (zcz (a:=1) (b:=1)) ?_;rintro e Z4 ⟨rfl,b4⟩;refine⟨⟨by decide,by decide,rfl⟩,zA.enc (zV 0 0)++(zA.enc (zV 0 1)++(zA.enc (zV 1 0)++zA.enc (zV 1 1))),by kernel_rfl,?_⟩;have f5:=zw Z4 (.cells (zA.enc (zV 0 0)++(zA.enc (zV 0 1)++(zA.enc (zV 1 0)++zA.enc (zV 1 1)))).toArray 52);have b5:Bw Z4 (Z4.alloc (.cells (zA.enc (zV 0 0)++(zA.enc (zV 0 1)++(zA.enc (zV 1 0)++zA.enc (zV 1 1)))).toArray 52)):=zba _ _;have r5:SlR zA (Z4.alloc (.cells (zA.enc (zV 0 0)++(zA.enc (zV 0 1)++(zA.enc (zV 1 0)++zA.enc (zV 1 1)))).toArray 52)) (some ⟨Z4.heap.size,0,none⟩) [zV 0 0,zV 0 1,zV 1 0,zV 1 1]:=(RowB.slr (.inr ⟨_,0,rfl,hlt f5,by
  have e:[zV 0 0,zV 0 1,zV 1 0,zV 1 1].flatMap zA.enc=zA.enc (zV 0 0)++(zA.enc (zV 0 1)++(zA.enc (zV 1 0)++zA.enc (zV 1 1))):=by simp[KK]
  rw[e];exact za f5⟩) (UN _))
 have l:=zst o h;have y:=zst l x;have aa:=zst y b4;have ad:=zst aa b5;refine cmo (zjY (la:=zbA) (lb:=[zV 0 0,zV 0 1,zV 1 0,zV 1 1]) (ca:=u.2) (cb:=4) (f.1.below ad) r5 (by decide)) ?_;rw[Uh (show zbA=[zV 0 0,zV 0 1,zV 1 0,zV 1 1] from rfl)];rintro e Z6 ⟨rfl,b6⟩;have bZ:=bY.trans (((zst ad b6)).mono bY.size);clear l y aa ad o h x b4 b5 b6 r5 f5 f bY;refine brT (brT (brT (brT (brT (brT (brT (brT (cmo zbw ?_))))))));rintro e V1 ⟨⟨vs,rfl,hP⟩,o⟩;refine cmo (zcz (a:=1) (b:=1)) ?_;rintro e V2 ⟨rfl,h⟩;have l:=zst o h;have bV:=zst bZ l;refine cmo (zpk (N:=100) (p:=zc6) (F:=zV 1 1) h.size (hP.v.below h) (hG.below bV).c (zkG _) (by decide) (fun t r ht hr=>(by decide:∀t,t<4->∀r,r<8->((zV 1 1).reg t r).toNat<100) t ht r hr) (by decide)) ?_;rw[zpH];rintro e V3 ⟨rfl,x⟩;exact⟨_,fun w=>qt _ _ okT okT w,by rw[Uh rfl];rfl,(zst bV x)⟩
end
end Go.Proofs.YtakcdebpklffiaaGreatDoor
