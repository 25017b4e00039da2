/- Contracts of functions, and plain facts, for the law that the last text of this claim proves. -/
import Derived.Test.YtakcdebpklffiaaGreatDoorQ2
import Derived.Test.YtakcdebpklffiaaGreatDoorQ1
set_option linter.unusedSimpArgs false
set_option linter.unusedVariables false
namespace Go.Proofs.YtakcdebpklffiaaGreatDoor
open Go.Vc Go.RowKit Go.Sei
def prE:Enc (Nat×Nat):=⟨fun x=>[u8 (UInt8.ofNat x.1),u8 (UInt8.ofNat x.2)],2,fun _=>rfl,by decide,fun a u hu=>by
 simp only[Ur,Qm,Ga] at hu;rcases hu with rfl | rfl <;> rfl⟩
def zfO:Enc Nat:=⟨fun x=>[s32 x],1,fun _=>rfl,by decide,fun a u hu=>by
 simp only[Ur,Qm,Ga] at hu;subst hu;rfl⟩
theorem zrE{s:Nat}{w:Wd}(hT:Tz32M w)(h0:s≠0)(h:s<2^32):Calls PG 269 #[s32 s] w fun e w'=>e = .returned (i64 (ctz s:Nat))/\w=w':=by
 refine zC 14 [s32 s] Tryz.func269 ?_;obtain⟨i,c⟩:=zgu h0 h;obtain⟨g,d⟩:=znu c;refine brN (QX (fun e=>h0 (by omega))) ⟨((2^32-s:Nat):Int),by unfold IntKind.wrap;simp only[IntKind.bits,IntKind.signed,QZ,Kn,UZ];omega,?_⟩;refine⟨((2^ctz s:Nat):Int),(zlg (a:=s) (b:=2^32-s) h (by omega)).trans (by rw[i]),?_⟩;refine⟨((2^ctz s*125613361%4294967296:Nat):Int),by
  have e:(((2^ctz s:Nat):Int)*125613361)=((2^ctz s*125613361:Nat):Int):=by rw[Qy];rfl
  rw[e];generalize 2^ctz s*125613361=n;unfold IntKind.wrap;simp only[IntKind.bits,IntKind.signed,QZ,Kn,UZ];omega,?_⟩
 refine⟨by decide,((2^ctz s*125613361%4294967296/2^27:Nat):Int),by
  generalize 2^ctz s*125613361%4294967296=n;show(n:Int).fdiv (2^(min (Int.toNat (27:Int)) IntKind.u32.bits))=_;rw[show min (Int.toNat (27:Int)) IntKind.u32.bits=27 from rfl,Int.fdiv_eq_ediv_of_nonneg _ (by decide)];omega,?_⟩
 refine⟨_,rfl,g,?_⟩;have f:(zgZ.map u8)[2^ctz s*125613361%4294967296/2^27]?=some (u8 (UInt8.ofNat (ctz s))):=by rw[KM,d];rfl
 refine⟨u8 (UInt8.ofNat (ctz s)),by rw[UO];exact zc hT f,?_⟩;have e:(UInt8.ofNat (ctz s)).toNat=ctz s:=by rw[KB];omega
 exact⟨(ctz s:Int),by rw[e];exact zg (by omega),rfl,rfl⟩
def jy:Nat->List Nat->List (Nat×Nat)
 | _,[]=>[]
 | i,s::r=>(els s).map (fun a=>(a,i))++jy (i+1) r
theorem zfW(f:Nat->Nat):∀(n i:Nat),jy i ((List.range' i n).map f)=(List.range' i n).flatMap fun i=>(els (f i)).map fun a=>(a,i)
 | 0,i=>rfl
 | n+1,i=>by
  rw[List.range'_succ,Uq,KK];show(els (f i)).map _++jy (i+1) _=_;rw[zfW f n (i+1)]
theorem zex(f:Nat->Nat)(n:Nat):jy 0 ((List.range n).map f)=zfV f n:=by
 unfold zfV;rw[List.range_eq_range'];exact zfW f n 0
theorem zku(l:List Nat)(x:Nat):∀i,jy i (l++[x])=jy i l++(els x).map (fun a=>(a,i+l.length)):=by
 induction l with
 | nil=>intro i;show (els x).map _++[]=_;rw [QA];rfl
 | cons y r ih =>
  intro i;show(els y).map _++jy (i+1) (r++[x])=((els y).map _++jy (i+1) r)++_;rw[ih,KH,Qj];congr 3;funext a;congr 1;omega
theorem zhc:∀(l:List Nat) (i:Nat),(jy i l).length<=64*l.length
 | [],_=>UP _
 | x::r,i=>by
  show((els x).map _++jy (i+1) r).length<=_;rw[lap,QD,Qj];have b:=zhc r (i+1);have a:=zee x;omega
section
variable{p:OA}{cap:Nat}{l:List Nat}{w:Wd}
theorem zhX(hl:SlR zfO w p l)(hn:l.length<=24)(hb:∀x∈l,x<2^32)(hT:Tz32M w) :
  Calls PG 194 #[.slice p l.length cap] w fun e w'=>(∃q c,e = .returned (.slice q (jy 0 l).length c)/\OwnS prE 46 w.heap.size w' q c (jy 0 l))/\Bw w w':=by
 refine zC 30 [.slice p l.length cap] Tryz.func194 ?_;refine⟨Nat×OA×Nat,fun s=>⟨[(3,.slice s.2.1 (jy 0 (l.take s.1)).length s.2.2),(6,.slice p l.length cap),(7,i64 l.length),(8,i64 (s.1:Nat))],[]⟩,
  fun s X=>s.1<=l.length/\OwnS prE 46 w.heap.size X s.2.1 s.2.2 (jy 0 (l.take s.1))/\Bw w X,fun s=>l.length-s.1,(0,none,0),
  (cvE rfl rfl),⟨UP _,OwnS.nil,UR _ _⟩,?_⟩
 rintro⟨k,q,c⟩ X ⟨hk,j,r⟩;dsimp only at hk j ⊢;refine biE (fun f=>?_) fun f=>?_
 ·have f:(k:Int)<(l.length:Int):=dT f;have d:k<l.length:=by omega
  obtain⟨b,o,hp,ag,aa⟩:=(hl.below r).at d;have ep:some (Value.slice p l.length cap)=some (Value.slice (some ⟨b,o,none⟩) l.length cap):=by rw[hp]
  subst hp;refine⟨k,rfl,d,s32 l[k],by have:=zc (aa k d) (i:=0) (v:=s32 l[k]) rfl;exact this,?_⟩;have ab:=hb _ (gM d);have ad:(l.take k).length=k:=by rw[Ql];omega
  have ah:=zhc (l.take k) 0;have tk:l.take (k+1)=l.take k++[l[k]]:=tsg d;refine⟨Nat×List (Nat×Nat)×OA×Nat,fun s=>⟨[(3,.slice s.2.2.1 s.2.1.length s.2.2.2),(4,i64 (k:Nat)),(5,s32 s.1),(6,.slice (some ⟨b,o,none⟩) l.length cap),(7,i64 l.length),(8,i64 (k:Nat))],[]⟩,
   fun s Y=>(jy 0 (l.take (k+1))=s.2.1++(els s.1).map (fun a=>(a,k))/\s.1<2^32/\s.2.1.length+(els s.1).length<=64*(k+1))/\OwnS prE 46 w.heap.size Y s.2.2.1 s.2.2.2 s.2.1/\Bw w Y,fun s=>s.1,(l[k],jy 0 (l.take k),q,c),
   (cvE rfl rfl),⟨⟨by rw[tk,zku,ad,UH],ab,by have:=zee l[k];show(jy 0 (l.take k)).length+(els l[k]).length<=_;omega⟩,j,r⟩,?_⟩
  rintro⟨s,m,q,c⟩ Y ⟨⟨z,u,g⟩,j,h⟩;dsimp only at z u g j ⊢;refine biE (fun f=>?_) fun f=>?_
  ·have f:(!decide ((s:Int)=0))=true:=f;have y:s≠0:=fun e=>by
    subst e;exact Ge f (by decide)
   have t:s<2^64:=nL u (by decide);obtain⟨e1,e2,_,_⟩:=jg y t;obtain⟨_,ae⟩:=zgu y u;rw[e1] at g;refine cmo (zrE (hT.below h) y u) ?_;rintro e _ ⟨rfl,rfl⟩;refine⟨_,w8N _,_,w8N _,prE.enc (ctz s,k),rfl,⟨by decide,by decide,rfl⟩,prE.enc (ctz s,k),zar rfl rfl,?_⟩;have n:Bw Y (Y.alloc (.cells (prE.enc (ctz s,k)).toArray 46)):=zba _ _;simp only[Qj] at g;refine qQ (E:=prE) (T:=46) (B:=w.heap.size) (l:=m) (news:=[(ctz s,k)]) (cap:=c) (m:=1) Tryz.underlying47 k46 rfl rfl rfl (j.below n) rfl (qq prE (ctz s,k)) (by have:=h.size;have:=n.size;omega) (by omega) (by show(m.length+1)*2<=_;omega) ?_;intro p2 c2 Z oZ gZ ac af;refine⟨((s-1:Nat):Int),(w32 (a:=(s:Int)-1) (by omega)).trans (by omega),((qA s:Nat):Int),zlg (a:=s) (b:=s-1) u (by omega),(qA s,m++[(ctz s,k)],p2,c2),(cvE rfl rfl),⟨⟨?_,by show qA s<_;omega,?_⟩,oZ,((zst h n)).trans ac⟩,e2⟩
   ·rw[z,e1,Uq,KH];rfl
   ·simp only[lap,Qj,QE];omega
  ·have f:(!decide ((s:Int)=0))=false:=f;have y:s=0:=by
    have h1:decide ((s:Int)=0)=true:=(by simpa using f);exact Uo (dT h1)
   subst y;rw[zbg,Ux,QA] at z;exact nxI (by omega) ⟨(k+1,q,c),⟨.cons (by rw[z];rfl) (.cons rfl (.cons rfl (.cons rfl .nil))),rfl⟩,⟨d,by show OwnS prE _ _ _ _ _ (jy 0 (l.take (k+1)));rw[z];exact j,h⟩,zdc (by omega)⟩
 ·have f:¬(k:Int)<(l.length:Int):=dF f;obtain rfl:k=l.length:=by omega
  rw[Qn] at j;refine⟨⟨q,c,by rw[Qn];rfl,j⟩,r⟩
theorem zhF{p:OA}{cap:Nat}{l:List Ev}{w:Wd}(hl:SlR evE w p l)(hn:l.length<=100000)(hc:p=none->cap=0) :
  Calls PG 69 #[.slice p l.length cap] w fun e w'=>(∃q c,e = .returned (.slice q l.length c)/\OwnS evE 80 w.heap.size w' q c l)/\Bw w w':=by
 refine zC 8 [.slice p l.length cap] Tryz.func69 ?_;refine⟨_,fun w=>zse Tryz.underlying72 _ _ p l.length cap w,?_⟩
 cases p with
 | none =>
  refine brT ?_;have e:=hl.none;subst e;exact⟨⟨none,0,rfl,OwnS.nil⟩,UR _ _⟩
 | some a =>
  refine brF ⟨⟨by decide,by decide,rfl⟩,[],rfl,?_⟩;have b:Bw w (w.alloc (.cells #[] 80)):=zba w _;refine zej (E:=evE) (T:=80) (B:=w.heap.size) (l:=[]) (news:=l) (cap:=0) Tryz.underlying72 k80 rfl rfl rfl zfY rfl (hl.below b) (fun h=>by cases h) b.size (by simp;omega) (by show(0+l.length)*16<=_;omega) ?_;intro i d w' g j f;exact⟨⟨i,d,rfl,g⟩,b.trans f⟩
end
theorem zdC{p:OA}{cap:Nat}{l:List UInt8}{w:Wd}(hl:SlR zN w p l)(h1:1<=l.length)(h12:l.length<=12)(hs:zdj l=true) :
  Calls PG 61 #[.slice p l.length cap] w fun e w'=>(∃q c,e = .returned (.slice q (ded l).length c)/\OwnS zN 5 w.heap.size w' q c (ded l))/\Bw w w':=by
 refine zC 9 [.slice p l.length cap] Tryz.func61 ?_;refine cmo (zj1 hl (by omega) (fun e=>by subst e;have:=hl.none;subst this;simp at h1)) ?_;rintro e X ⟨⟨q,c,rfl,h⟩,d⟩;rcases h.inv with⟨_,_,o⟩ | ⟨g,k,rfl,n,_⟩
 ·rw[o] at h1;simp at h1
 refine cmo (zra h.row h12 hs) ?_;rintro e Y ⟨rfl,a⟩;have i:Bw X Y:=⟨a.os,a.tape,a.output,a.size,a.block⟩;refine cmo (zlb (h.below a) (by omega)) ?_;rintro e Z ⟨rfl,j,m⟩;have f:=d.size;exact⟨⟨_,_,rfl,j⟩,(d.trans (a.mono f)).trans (zm m (UC f a.size) n)⟩
def zgS (P:PathD) (q1:OA) (c1:Nat) (q2:OA) (c2:Nat) (q3:OA) (c3:Nat) (q4:OA) (c4:Nat):List Value :=
 [.slice q1 P.ev.length c1,.slice q2 P.data.length c2,.slice q3 P.ctrl.length c3,.slice q4 P.rmw.length c4]++seg 8 (fun i=>u8 (P.regs i))
theorem ziW(P:PathD)(q1 c1 q2 c2 q3 c3 q4 c4):(zgS P q1 c1 q2 c2 q3 c3 q4 c4).all Value.oneCell'=true:=by
 unfold zgS;rw[Qz,zaW fun _=>rfl];rfl
theorem ziX(P:PathD)(q1 c1 q2 c2 q3 c3 q4 c4):(zgS P q1 c1 q2 c2 q3 c3 q4 c4).length=12:=by
 unfold zgS;rw[lap,zy];rfl
def zsD (R:RunD):Prop:=∀i,i<R.many->R.data i<2^32/\R.ctrl i<2^32/\R.att i<2^32
section
variable{R:RunD}{b:Nat}{w:Wd}
theorem zmm{X:Wd}{o n m:Nat}{f:Nat->Nat}(hb:b<X.heap.size)(h:∀i,i<n->X.cell? ⟨b,o+i,none⟩=some (s32 (f i)))(hm:m<=n):SlR zfO X (some ⟨b,o,none⟩) ((List.range m).map f):=by
 refine .inr ⟨b,o,rfl,hb,fun i c=>?_⟩;have c:i<m:=by simpa using c
 rw[Qh,Kt];refine jF fun j v a=>?_
 cases j with
 | zero =>
  have a:s32 (f i)=v:=by simpa [zfO] using a
  rw[<- a];show X.cell? ⟨b,o+i*1+0,none⟩=_;rw[UO,UB];exact h i (by omega)
 | succ j=>simp [zfO] at a
theorem zqG{X:Wd}{m:Nat}(f:zag X b R)(hm:m<=24):SlR evE X (some ⟨b,19,none⟩) ((List.range m).map R.ev):=by
 have c:=zlj f;refine .inr ⟨b,19,rfl,hlt f,fun i a=>?_⟩;have a:i<m:=by simpa using a
 rw[Qh,Kt,<- zoS R.ev (show i<24 by omega)];exact zI c
theorem zrQ(f:zag w b R)(hm:R.many<=24)(hB:zsD R)(hT:Tz32M w) :
  Calls PG 126 #[AtR b] w fun e w'=>(∃q1 c1 q2 c2 q3 c3 q4 c4,e = .returned (.agg (zgS (zbP R) q1 c1 q2 c2 q3 c3 q4 c4).toArray)/\OwnS evE 80 w.heap.size w' q1 c1 (zbP R).ev/\OwnS prE 46 w.heap.size w' q2 c2 (zbP R).data/\OwnS prE 46 w.heap.size w' q3 c3 (zbP R).ctrl/\OwnS prE 46 w.heap.size w' q4 c4 (zbP R).rmw)/\Bw w w':=by
 refine zC 44 [AtR b] Tryz.func126 ?_;obtain⟨Z0,ad⟩:∃Z0:List Value,Z0=zgS ⟨[],[],[],[],fun _=>0⟩ none 0 none 0 none 0 none 0:=⟨_,rfl⟩;have f0:=zw w (.cells Z0.toArray 145);have ah:Bw w (w.alloc (.cells Z0.toArray 145)):=zba w _;obtain⟨X,hX⟩:=nm ((w.alloc (.cells Z0.toArray 145)).drew);have a:Bw w X:=by rw[hX];exact ah.drew
 have ac:X.heap[w.heap.size]?=some (.cells Z0.toArray 145 (0,0)):=by rw[hX];exact f0
 have u:=zb a f;have ai:(w.alloc (.cells (#[.slice none 0 0,.slice none 0 0,.slice none 0 0,.slice none 0 0,.int .u8 0,.int .u8 0,.int .u8 0,.int .u8 0,.int .u8 0,.int .u8 0,.int .u8 0,.int .u8 0]:Array Value) 145)).drew=X:=by rw[hX,ad];rfl
 refine DrawE.ord [41] [0,1,2,3,4,5,6,7,9,10,11,12,13,14,15,16,18,19,20,21,22,23,24,25,27,28,29,30,31,32,33,34,36,37,38,39,8,17,26,35,40,41] (by kernel_rfl) ?_;have cut:∀(o e:Nat),Value.slice (z7 (some ⟨b,0+o,none⟩) 24 0 e) (R.many-0) (24-0) = .slice (some ⟨b,o,none⟩) R.many 24:=fun o e=>by rw[js,UH];rfl
 have s:∀{α:Type} (g:Nat->α),((List.range R.many).map g).length=R.many:=fun g=>by rw[QD,KN]
 have af:=hlt u;have sd:∀{o:Nat} {g:Nat->Nat},(∀i,i<24->(qG R)[o+i]?=some (s32 (g i)))->SlR zfO X (some ⟨b,o,none⟩) ((List.range R.many).map g):=fun{o g} h=>zmm af (fun i d=>by
  have:=zc (za u) (h i d);rw[UH] at this;exact this) hm
 rw[ai];refine⟨_,zc (za u) (i:=18) (za6 R),R.many,rfl,hm,_,zc (za u) (i:=18) (za6 R),R.many,rfl,hm,_,zc (za u) (i:=18) (za6 R),R.many,rfl,hm,_,zc (za u) (i:=18) (za6 R),R.many,rfl,hm,seg 8 (fun i=>u8 (R.regs i)),zy _ _,?_,af,?_⟩
 ·have:=zI (n:=1) (m:=8) (za u);have e:((qG R).toArray.toList.drop 1).take 8=seg 8 (fun i=>u8 (R.regs i)):=by
   show(seg 8 (fun i=>u8 (R.regs i))++_).take 8=_;exact QM (zy _ _)
  rw[e] at this;exact this
 have c1:=zhF (w:=X) (cap:=24) (zqG u hm) (by rw[s];omega) (fun h=>by cases h);rw[s,<- cut 19 7] at c1;refine cmo c1 ?_;rintro e Y1 ⟨⟨q1,k1,rfl,o1⟩,k⟩;refine⟨k,?_⟩;have an:=zst a k;have c2:=zhX (w:=Y1) (cap:=24) ((sd (o:=187) (g:=R.data) fun i d=>znP R d).below k) (by rw[s];exact hm) (fun x hx=>by
  obtain⟨i,d,rfl⟩:=Uz.1 hx;exact(hB i (Ue.1 d)).1) (hT.below an)
 rw[s,<- cut 187 1,zex] at c2;refine cmo c2 ?_;rintro e Y2 ⟨⟨q2,k2,rfl,o2⟩,r⟩;refine⟨r,?_⟩;have ab:=zst k r;have al:=zst a ab;have c3:=zhX (w:=Y2) (cap:=24) ((sd (o:=211) (g:=R.ctrl) fun i d=>znQ R d).below ab) (by rw[s];exact hm) (fun x hx=>by
  obtain⟨i,d,rfl⟩:=Uz.1 hx;exact(hB i (Ue.1 d)).2.1) (hT.below al)
 rw[s,<- cut 211 1,zex] at c3;refine cmo c3 ?_;rintro e Y3 ⟨⟨q3,k3,rfl,o3⟩,q⟩;refine⟨q,?_⟩;have aa:=zst ab q;have ak:=zst a aa;have c4:=zhX (w:=Y3) (cap:=24) ((sd (o:=235) (g:=R.att) fun i d=>zpO R d).below aa) (by rw[s];exact hm) (fun x hx=>by
  obtain⟨i,d,rfl⟩:=Uz.1 hx;exact(hB i (Ue.1 d)).2.2) (hT.below ak)
 rw[s,<- cut 235 1,zex] at c4;refine cmo c4 ?_;rintro e Y4 ⟨⟨q4,k4,rfl,o4⟩,j⟩;refine⟨j,?_⟩;have ae:=zst aa j;have am:=zst a ae;have aj:(zbP R).ev.length=R.many:=s _;obtain⟨z,t⟩:=nm (zgS (zbP R) q1 k1 q2 k2 q3 k3 q4 k4);refine⟨z,by rw[t];unfold zgS;rw[aj];rfl,?_⟩;have f4:=zb ae ac;have ag:z.all Value.oneCell'=true:=by rw[t];exact ziW ..
 have y:z.length=12:=by rw[t];exact ziX ..
 refine zo (v := .agg z.toArray) zmL f4 y (by rw[ad];rfl) ag ?_;have f5:=zk (cs':=(Value.agg z.toArray).cells) f4;have hs:w.heap.size<=X.heap.size:=a.size;have keep:∀{α:Type} {E:Enc α} {T B c:Nat} {p:OA} {l:List α},X.heap.size<=B->OwnS E T B Y4 p c l->OwnS E T w.heap.size (Y4.setRow w.heap.size (Value.agg z.toArray).cells) p c l:=fun{α E T B c p l} hB o=>by
  refine OwnS.lower (o.kept (qp Y4 w.heap.size _) fun g hg e=>?_) (UC hs hB);rcases o.inv with⟨h,_⟩ | ⟨g',ao,h,h2,_⟩
  ·rw[h] at hg;cases hg
  ·rw[h] at hg;simp only[KS,Uj,UX] at hg e;have:=hlt ac;omega
 have n1:=k.size;have n2:=r.size;have n3:=q.size;refine⟨z,y,za f5,⟨q1,k1,q2,k2,q3,k3,q4,k4,by rw[t];rfl,keep (UN _) (((o1.below r).below q).below j),keep (by omega) ((o2.below q).below j),keep (by omega) (o3.below j),keep (by omega) o4⟩,zh am (UN _) _⟩
end
theorem jw(c:UInt8)(w:Wd):Calls PG 230 #[u8 c] w fun e w'=>e = .returned (i64 (zY c))/\w=w':=by
 refine qg 47 [u8 c] (.s .p (.c .p .p)) Tryz.func230 ?_;refine⟨Unit,fun _=>⟨[(0,u8 c)],[]⟩,fun _ X=>ze6 c=false/\zgg c=false/\w=X,?_,?_⟩
 ·repeat first
   | exact⟨(),(cvE rfl rfl),by unfold ze6;simp only [*];rfl,by unfold zgg;simp only [*];rfl,rfl⟩
   | exact⟨by
     first
     | (have e:ze6 c=true:=(by unfold ze6;simp only [*];rfl);unfold zY;rw [e];rfl)
     | (have e1:ze6 c=false:=(by unfold ze6;simp only [*];rfl);have z:zgg c=true:=(by unfold zgg;simp only [*];rfl);unfold zY;rw [e1,z];rfl),rfl⟩
   | refine brT ?_
   | refine brF ?_
   | refine brE (by assumption) ?_
   | refine brN (by assumption) ?_
   | refine biE (fun h=>?_) fun h=>?_
 rintro _ _ ⟨y,x,rfl⟩;have o:zY c=(bif eqB c 32||eqB c 9 then 1 else bif eqB c 10 then 2 else bif eqB c 95 then 5 else bif eqB c 35 then 7 else bif zlC c then 6 else 0):=by unfold zY;rw[y,x];rfl
 rw[o];clear o y x;unfold zlC;refine biE (fun h=>?_) fun h=>?_
 ·have h:eqB c 32=true:=h;exact brE h ⟨by rw[h];rfl,rfl⟩
 have j:eqB c 32=false:=h;refine biE (fun h=>?_) fun h=>?_
 ·have h:eqB c 9=true:=h;exact⟨by rw[j,h];rfl,rfl⟩
 have t:eqB c 9=false:=h;refine biE (fun h=>?_) fun h=>?_
 ·have h:eqB c 10=true:=h;exact⟨by rw[j,t,h];rfl,rfl⟩
 have n:eqB c 10=false:=h;refine biE (fun h=>?_) fun h=>?_
 ·have h:eqB c 95=true:=h;exact⟨by rw[j,t,n,h];rfl,rfl⟩
 have q:eqB c 95=false:=h;refine biE (fun h=>?_) fun h=>?_
 ·have h:eqB c 35=true:=h;exact⟨by rw[j,t,n,q,h];rfl,rfl⟩
 have v:eqB c 35=false:=h;rw[j,t,n,q,v];refine biE (fun h=>?_) fun h=>?_
 ·have h:eqB c 61=true:=h;exact brE h ⟨by rw[h];rfl,rfl⟩
 have a:eqB c 61=false:=h;refine biE (fun h=>?_) fun h=>?_
 ·have h:eqB c 43=true:=h;exact brE h ⟨by rw[a,h];rfl,rfl⟩
 have b:eqB c 43=false:=h;refine biE (fun h=>?_) fun h=>?_
 ·have h:eqB c 45=true:=h;exact brE h ⟨by rw[a,b,h];rfl,rfl⟩
 have f:eqB c 45=false:=h;refine biE (fun h=>?_) fun h=>?_
 ·have h:eqB c 94=true:=h;exact brE h ⟨by rw[a,b,f,h];rfl,rfl⟩
 have g:eqB c 94=false:=h;refine biE (fun h=>?_) fun h=>?_
 ·have h:eqB c 38=true:=h;exact brE h ⟨by rw[a,b,f,g,h];rfl,rfl⟩
 have i:eqB c 38=false:=h;refine biE (fun h=>?_) fun h=>?_
 ·have h:eqB c 124=true:=h;exact brE h ⟨by rw[a,b,f,g,i,h];rfl,rfl⟩
 have d:eqB c 124=false:=h;refine biE (fun h=>?_) fun h=>?_
 ·have h:eqB c 33=true:=h;exact brE h ⟨by rw[a,b,f,g,i,d,h];rfl,rfl⟩
 have k:eqB c 33=false:=h;refine biE (fun h=>?_) fun h=>?_
 ·have h:eqB c 40=true:=h;exact brE h ⟨by rw[a,b,f,g,i,d,k,h];rfl,rfl⟩
 have l:eqB c 40=false:=h;refine biE (fun h=>?_) fun h=>?_
 ·have h:eqB c 41=true:=h;exact brE h ⟨by rw[a,b,f,g,i,d,k,l,h];rfl,rfl⟩
 have m:eqB c 41=false:=h;refine biE (fun h=>?_) fun h=>?_
 ·have h:eqB c 58=true:=h;exact brE h ⟨by rw[a,b,f,g,i,d,k,l,m,h];rfl,rfl⟩
 have r:eqB c 58=false:=h;refine biE (fun h=>?_) fun h=>?_
 ·have h:eqB c 60=true:=h;exact⟨by rw[a,b,f,g,i,d,k,l,m,r,h];rfl,rfl⟩
 have u:eqB c 60=false:=h;exact⟨by rw[a,b,f,g,i,d,k,l,m,r,u];rfl,rfl⟩
theorem zjl(c:UInt8)(w:Wd):Calls PG 232 #[u8 c] w fun e w'=>e = .returned (.bool (qi c))/\w=w':=by
 refine zC 16 [u8 c] Tryz.func232 ?_;refine cmo (jw c w) ?_;rintro e _ ⟨rfl,rfl⟩;have a:∀k:Nat,decide ((zY c:Int)=(k:Int))=decide (zY c=k):=fun k=>by rw[Qw];omega
 refine biE (fun h=>?_) fun h=>?_
 ·have h:decide (zY c=3)=true:=(a 3).symm.trans h;exact UV (fun _=>⟨rb (by unfold qi;rw[h];rfl),rfl⟩) (fun h=>by cases h)
 have b:decide (zY c=3)=false:=(a 3).symm.trans h;refine biE (fun h=>?_) fun h=>?_
 ·have h:decide (zY c=4)=true:=(a 4).symm.trans h;exact⟨rb (by unfold qi;rw[b,h];rfl),rfl⟩
 have d:decide (zY c=4)=false:=(a 4).symm.trans h;exact⟨rb (by unfold qi;rw[b,d];exact a 5),rfl⟩
theorem za5{p:UInt8->Bool}{s:List UInt8}{k:Nat}(h:k<s.length):jj p (s.drop k)=if p s[k] then jj p (s.drop (k+1))+1 else 0:=by
 rw[Jm h];rfl
theorem zfn{p:UInt8->Bool}{s:List UInt8}{k:Nat}(h:s.length<=k):jj p (s.drop k)=0:=by
 rw[Jw h];rfl
theorem zjm{p:UInt8->Bool}(s:List UInt8)(k:Nat)(h:k<=s.length):k+jj p (s.drop k)<=s.length:=by
 have:=ziN p (s.drop k);rw[Qk] at this;omega
theorem zbs{a b:Nat}:decide ((a:Int)=(b:Int))=decide (a=b):=by rw[Qw];omega
theorem zbV{s:List UInt8}{k:Nat}(h:k<s.length):(bs s).data.toList[k]?=some s[k]:=by
 show s[k]?=_;exact gE h
theorem zh0{g a:Nat}{s:List UInt8}{w:Wd}(h:zF w ⟨g,0,none⟩ [zJ s,i64 a]) :
  CB 315 #[At0 g] w (.bool (decide (s.length<=a))):=by
 refine zC 13 [At0 g] Tryz.func315 ?_;refine DrawE.ord [] [0,1,2,3,4,5,6,7,8,9,10] (by kernel_rfl) ?_;have h:zF w.drew ⟨g,0,none⟩ [zJ s,i64 a]:=qC rfl h;refine⟨_,zc h (i:=1) rfl,_,zc h (i:=0) rfl,rb ?_,(UR _ _).drew⟩;show decide ((s.length:Int)<=(a:Int))=_;rw[Qw];omega
theorem zl4{g a:Nat}{s:List UInt8}{w:Wd}(h:zF w ⟨g,0,none⟩ [zJ s,i64 a])(hg:g<w.heap.size) :
  CB 313 #[At0 g] w (.bool (jA s a)):=by
 refine zC 18 [At0 g] Tryz.func313 ?_;refine DrawE.ord [] [0,1,2,3,4,5,6,7,8,9,10,11,12,13,14,15] (by kernel_rfl) ?_;have h:zF w.drew ⟨g,0,none⟩ [zJ s,i64 a]:=qC rfl h;refine cmo (zh0 h) ?_;rintro e V ⟨rfl,d⟩;refine⟨d,?_⟩;have f:=(UR w.heap.size w).drew.trans d;have j:=q5 d hg h;refine biE (fun b=>?_) fun b=>?_
 ·have b:s.length<=a:=dT b;have:jA s a=true:=by unfold jA;rw[JE b]
  exact⟨rb this.symm,f⟩
 ·have b:¬s.length<=a:=dF b;have c:a<s.length:=by omega
  refine⟨_,zc j (i:=0) rfl,_,zc j (i:=1) rfl,a,rfl,c,s[a],zbV c,cmo (jw _ _) ?_⟩;rintro e _ ⟨rfl,rfl⟩;refine⟨UR _ _,?_⟩;have:jA s a=decide (zY s[a]=2):=by unfold jA;rw[gE c]
  exact⟨rb (by rw[this];exact zbs),f⟩
theorem zmc{g a:Nat}{s:List UInt8}{w:Wd}(h:zF w ⟨g,0,none⟩ [zJ s,i64 a])(ha:a<s.length)(hs:s.length<=140737488351232) :
  Calls PG 328 #[At0 g] w fun e w'=>e = .returned (i64 (a+1+jj qi (s.drop (a+1)):Nat))/\w=w':=by
 refine zC 28 [At0 g] Tryz.func328 ?_;refine⟨_,zc h (i:=1) rfl,(a+1:Nat),(zg (by omega)).trans (by omega),Nat,fun k=>⟨[(0,At0 g),(3,.int .i64 (k:Nat))],[]⟩,fun k X=>k<=s.length/\k+jj qi (s.drop k)=a+1+jj qi (s.drop (a+1))/\w=X,fun k=>s.length-k,a+1,(cvE rfl rfl),⟨ha,rfl,rfl⟩,?_⟩;rintro k _ ⟨j,b,rfl⟩;dsimp only at j b ⊢;refine⟨_,zc h (i:=0) rfl,biE (fun f=>?_) fun f=>?_⟩
 ·have f:(k:Int)<(s.length:Int):=dT f;have c:k<s.length:=by omega
  refine⟨_,zc h (i:=0) rfl,k,rfl,c,s[k],zbV c,cmo (zjl _ _) ?_⟩;rintro e _ ⟨rfl,rfl⟩;refine biE (fun d=>?_) fun d=>?_
  ·refine⟨(k+1:Nat),(zg (by omega)).trans (by omega),k+1,(cvE rfl rfl),⟨c,?_,rfl⟩,zdc (by omega)⟩;rw[za5 c,Gd d] at b;omega
  ·have d:¬qi s[k]=true:=by rw[KZ];exact d
   rw[za5 c,Gc d] at b;exact⟨by rw[<- b];rfl,rfl⟩
 ·have f:¬(k:Int)<(s.length:Int):=dF f;refine UV (fun h=>by cases h) (fun _=>?_);rw[zfn (by omega)] at b;exact⟨by rw[<- b];rfl,rfl⟩
theorem zi4{g a:Nat}{s:List UInt8}{w:Wd}(h:zF w ⟨g,0,none⟩ [zJ s,i64 a])(ha:a<s.length)(hs:s.length<=140737488351232) :
  Calls PG 329 #[At0 g] w fun e w'=>e = .returned (i64 (a+1+jj zaQ (s.drop (a+1)):Nat))/\w=w':=by
 refine zC 29 [At0 g] Tryz.func329 ?_;refine⟨_,zc h (i:=1) rfl,(a+1:Nat),(zg (by omega)).trans (by omega),Nat,fun k=>⟨[(0,At0 g),(3,.int .i64 (k:Nat))],[]⟩,fun k X=>k<=s.length/\k+jj zaQ (s.drop k)=a+1+jj zaQ (s.drop (a+1))/\w=X,fun k=>s.length-k,a+1,(cvE rfl rfl),⟨ha,rfl,rfl⟩,?_⟩;rintro k _ ⟨m,c,rfl⟩;dsimp only at m c ⊢;refine⟨_,zc h (i:=0) rfl,biE (fun j=>?_) fun j=>?_⟩
 ·have j:(k:Int)<(s.length:Int):=dT j;have d:k<s.length:=by omega
  refine⟨_,zc h (i:=0) rfl,k,rfl,d,s[k],zbV d,cmo (jw _ _) ?_⟩;rintro e _ ⟨rfl,rfl⟩;have l:decide ((zY s[k]:Int)=4)=zaQ s[k]:=zbs (b:=4);refine biE (fun f=>?_) fun f=>?_
  ·refine⟨(k+1:Nat),(zg (by omega)).trans (by omega),k+1,(cvE rfl rfl),⟨d,?_,rfl⟩,zdc (by omega)⟩;rw[za5 d,Gd (l.symm.trans f)] at c;omega
  ·have f:¬zaQ s[k]=true:=by rw[KZ];exact l.symm.trans f
   rw[za5 d,Gc f] at c;exact⟨by rw[<- c];rfl,rfl⟩
 ·have j:¬(k:Int)<(s.length:Int):=dF j;refine UV (fun h=>by cases h) (fun _=>?_);rw[zfn (by omega)] at c;exact⟨by rw[<- c];rfl,rfl⟩
def zfM (s:List UInt8) (a:Nat) (c:UInt8):Nat:=if(eqB c 61||eqB c 33)&&decide (s[a+1]?=some 61) then a+2 else a+1
theorem zml{g a:Nat}{s:List UInt8}{w:Wd}(h:zF w ⟨g,0,none⟩ [zJ s,i64 a])(ha:a<s.length)(hs:s.length<=140737488351232) :
  CB 327 #[At0 g] w (i64 (zfM s a s[a])):=by
 refine qg 46 [At0 g] (.s .p (.s .p (.s .p (.c .p .p)))) Tryz.func327 ?_;refine⟨_,zc h (i:=1) rfl,(a+1:Nat),(zg (by omega)).trans (by omega),DrawE.ord [] [0,1,2,3,4,5,6,7,8,9] (by kernel_rfl) ?_⟩;have l:zF w.drew ⟨g,0,none⟩ [zJ s,i64 a]:=qC rfl h;refine⟨_,zc l (i:=0) rfl,_,zc l (i:=1) rfl,a,rfl,ha,s[a],zbV ha,Unit,fun _=>⟨[(3,i64 (zfM s a s[a]))],[]⟩,fun _ X=>X=w.drew,?_,?_⟩
 ·have m:((eqB s[a] 61||eqB s[a] 33)&&decide (s[a+1]?=some 61))=false->∃_:Unit,some (Value.int .i64 ((a+1:Nat):Int))=some (i64 (zfM s a s[a])):=fun r=>⟨(),by unfold zfM;rw[r];rfl⟩;refine biE (fun n=>?_) fun n=>?_
  ·have o:(eqB s[a] 61||eqB s[a] 33)=true:=by
    have:eqB s[a] 61=true:=n;rw[this];rfl
   refine brT ⟨_,zc l (i:=0) rfl,biE (fun d=>?_) fun d=>?_⟩
   ·have d:((a+1:Nat):Int)<(s.length:Int):=dT d;have k:a+1<s.length:=(by omega);refine⟨_,zc l (i:=0) rfl,a+1,rfl,k,s[a+1],zbV k,biE (fun j=>?_) fun j=>?_⟩
    ·refine⟨(a+2:Nat),(zg (by omega)).trans (by omega),(),⟨.cons ?_ .nil,rfl⟩,rfl⟩;have b:s[a+1]=61:=by
      apply QW.1;have:((s[a+1].toNat:Nat):Int)=61:=dT j;have q:(61:UInt8).toNat=61:=rfl;omega
     unfold zfM;rw[o,gE k,b];rfl
    ·obtain⟨_,e⟩:=m (by
      have b:¬s[a+1]=61:=fun e=>by rw[e] at j;cases j
      rw[gE k,QX (by simpa using b),QY])
     exact⟨(),⟨.cons e .nil,rfl⟩,rfl⟩
   ·have d:¬((a+1:Nat):Int)<(s.length:Int):=dF d;refine brF ?_;obtain⟨_,e⟩:=m (by rw[JE (by omega)];simp);exact⟨(),⟨.cons e .nil,rfl⟩,rfl⟩
  ·have n:eqB s[a] 61=false:=n;refine biE (fun f=>?_) fun f=>?_
   ·have o:(eqB s[a] 61||eqB s[a] 33)=true:=by
     have:eqB s[a] 33=true:=f;rw[this,Bool.or_true]
    refine⟨_,zc l (i:=0) rfl,biE (fun d=>?_) fun d=>?_⟩
    ·have d:((a+1:Nat):Int)<(s.length:Int):=dT d;have k:a+1<s.length:=(by omega);refine⟨_,zc l (i:=0) rfl,a+1,rfl,k,s[a+1],zbV k,biE (fun j=>?_) fun j=>?_⟩
     ·refine⟨(a+2:Nat),(zg (by omega)).trans (by omega),(),⟨.cons ?_ .nil,rfl⟩,rfl⟩;have b:s[a+1]=61:=by
       apply QW.1;have:((s[a+1].toNat:Nat):Int)=61:=dT j;have q:(61:UInt8).toNat=61:=rfl;omega
      unfold zfM;rw[o,gE k,b];rfl
     ·obtain⟨_,e⟩:=m (by
       have b:¬s[a+1]=61:=fun e=>by rw[e] at j;cases j
       rw[gE k,QX (by simpa using b),QY])
      exact⟨(),⟨.cons e .nil,rfl⟩,rfl⟩
    ·have d:¬((a+1:Nat):Int)<(s.length:Int):=dF d;refine brF ?_;obtain⟨_,e⟩:=m (by rw[JE (by omega)];simp);exact⟨(),⟨.cons e .nil,rfl⟩,rfl⟩
   ·have f:eqB s[a] 33=false:=f;refine brF (brF ?_);obtain⟨_,e⟩:=m (by rw[n,f];rfl);exact⟨(),⟨.cons e .nil,rfl⟩,rfl⟩
 rintro _ _ rfl;exact⟨rfl,(UR _ _).drew⟩
def ScV (X:Wd) (g:Nat) (s:List UInt8) (a:Nat) (op:Bool):Prop:=X.heap[g]?=some (.cells #[zJ s,i64 a,.bool op] 331 (0,0))
theorem ScV.cells{X:Wd}{g a:Nat}{s:List UInt8}{op:Bool}(h:ScV X g s a op):zF X ⟨g,0,none⟩ [zJ s,i64 a]:=by
 have:=zcc (o:=0) (n:=2) h;exact this
theorem ScV.below{X Y:Wd}{g a:Nat}{s:List UInt8}{op:Bool}(h:ScV X g s a op)(hb:Bw X Y):ScV Y g s a op:=zb hb h
theorem zfq{a b c:Wd}{g:Nat}(h:a.grownBy b (some g))(k:Bw b c):a.grownBy c (some g):=zf h (zi k)
theorem zew{X:Wd}{g a:Nat}{s:List UInt8}{op:Bool}(h:ScV X g s a op)(v:Nat){K:Wd->Prop}(k:∀Y,ScV Y g s v op->X.grownBy Y (some g)->Y.heap.size=X.heap.size->K Y) :
  SatR ((storeVar 3 ⟨g,1,none⟩ (i64 v)).run PG X) fun _ w'=>K w' :=
 j9 k3 rfl h (o:=1) (by show 1<3;omega) (v:=i64 v) rfl rfl fun Y b d c=>k Y b d c
theorem ziT{X:Wd}{g a:Nat}{s:List UInt8}{op:Bool}(h:ScV X g s a op)(v:Bool){K:Wd->Prop}(k:∀Y,ScV Y g s a v->X.grownBy Y (some g)->Y.heap.size=X.heap.size->K Y) :
  SatR ((storeVar 4 ⟨g,2,none⟩ (.bool v)).run PG X) fun _ w'=>K w' :=
 j9 k4 rfl h (o:=2) (by show 2<3;omega) (v := .bool v) rfl rfl fun Y b d c=>k Y b d c
theorem zbW{s:List UInt8}{k:Nat}(h:k<s.length):jA s k=decide (zY s[k]=2):=by unfold jA;rw[gE h]
theorem zgE{s:List UInt8}{k:Nat}(h:s.length<=k):jA s k=true:=by unfold jA;rw[JE h]
theorem zrR{g a:Nat}{s:List UInt8}{op:Bool}{w:Wd}(h:ScV w g s a op)(ha:a<=s.length)(hs:s.length<=140737488351232) :
  Calls PG 312 #[At0 g] w fun e w'=>(∃v,e = .returned v)/\ScV w' g s (zH s a) op/\w.grownBy w' (some g):=by
 refine qg 50 [At0 g] (.c .p (.c .p .p)) Tryz.func312 ?_;obtain⟨b,hb⟩:=nm (zbx s a);have aa:b<=s.length:=by rw[hb];exact zjm s a ha
 refine⟨Unit,fun _=>⟨[(0,At0 g)],[]⟩,fun _ X=>ScV X g s b op/\w.grownBy X (some g),?_,?_⟩
 ·refine⟨Nat,fun k=>⟨[(0,At0 g)],[]⟩,fun k X=>k<=s.length/\k+jj ziq (s.drop k)=b/\ScV X g s k op/\w.grownBy X (some g),fun k=>s.length-k,a,(cvE rfl rfl),⟨ha,hb.symm,h,qP _ _⟩,?_⟩;rintro k X ⟨hk,m,o,r⟩;dsimp only at hk m ⊢;refine DrawE.ord [] [0,1,2,3,4,5,6,7,8,9,10,11,12,13,14,15] (by kernel_rfl) ?_;have n:ScV X.drew g s k op:=o;refine cmo (zh0 n.cells) ?_;rintro e Y ⟨rfl,f⟩;refine⟨f,?_⟩;have l:=n.below f;have q:w.grownBy Y (some g):=zf r (zi ((UR _ X).drew.trans f));refine biE (fun j=>?_) fun j=>?_
  ·have j:s.length > k:=by
    have:(!decide (s.length<=k))=true:=j;simpa using this
   refine⟨_,zc l.cells (i:=0) rfl,_,zc l.cells (i:=1) rfl,k,rfl,j,s[k],zbV j,cmo (jw _ _) ?_⟩;rintro e _ ⟨rfl,rfl⟩;refine⟨UR _ _,?_⟩;have hd:decide ((zY s[k]:Int)=1)=ziq s[k]:=zbs (b:=1);rw[za5 j] at m;refine biE (fun d=>?_) fun d=>?_
   ·rw[Gd (hd.symm.trans d)] at m;exact⟨_,zc l.cells (i:=1) rfl,(k+1:Nat),(zg (by omega)).trans (by omega),zew l (k+1) fun Z hZ gZ sZ=>⟨k+1,(cvE rfl rfl),⟨j,by omega,hZ,zf q gZ⟩,zdc (by omega)⟩⟩
   ·have d:¬ziq s[k]=true:=(by rw[KZ];exact hd.symm.trans d);rw[Gc d] at m;exact⟨(),(cvE rfl rfl),by rw[<- m];exact l,q⟩
  ·have j:s.length<=k:=by
    have:(!decide (s.length<=k))=false:=j;simpa using this
   refine brF ?_;rw[zfn j] at m;exact⟨(),(cvE rfl rfl),by rw[<- m];exact l,q⟩
 clear h;rintro _ X ⟨o,r⟩;have z:zH s a=match s[b]? with
   | some c=>if zY c=7 then b+jj zc9 (s.drop b) else b
   | none=>b:=by rw [hb];rfl
 refine⟨Unit,fun _=>⟨[(0,At0 g)],[]⟩,fun _ X=>(∃x:b<s.length,zY s[b]=7)/\ScV X g s b op/\w.grownBy X (some g),?_,?_⟩
 ·refine DrawE.ord [] [0,1,2,3,4,5,6,7,8,9,10,11,12,13,14] (by kernel_rfl) ?_;have n:ScV X.drew g s b op:=o;refine cmo (zh0 n.cells) ?_;rintro e Y ⟨rfl,f⟩;refine⟨f,?_⟩;have l:=n.below f;have q:w.grownBy Y (some g):=zf r (zi ((UR _ X).drew.trans f));refine biE (fun j=>?_) fun j=>?_
  ·have j:s.length<=b:=dT j;refine brT ?_;have:zH s a=b:=by rw[z,JE j]
   rw[this];exact⟨⟨_,rfl⟩,l,q⟩
  ·have j:¬s.length<=b:=dF j;have x:b<s.length:=by omega
   refine⟨_,zc l.cells (i:=0) rfl,_,zc l.cells (i:=1) rfl,b,rfl,x,s[b],zbV x,cmo (jw _ _) ?_⟩;rintro e _ ⟨rfl,rfl⟩;refine⟨UR _ _,biE (fun d=>?_) fun d=>?_⟩
   ·have d:¬zY s[b]=7:=by
     have u:(!decide ((zY s[b]:Int)=7))=true:=d;simp at u;omega
    have:zH s a=b:=(by rw[z,gE x];simp only[Gc d]);rw[this];exact⟨⟨_,rfl⟩,l,q⟩
   ·have d:zY s[b]=7:=by
     have u:(!decide ((zY s[b]:Int)=7))=false:=d;simp at u;omega
    exact⟨(),(cvE rfl rfl),⟨x,d⟩,l,q⟩
 clear o r X;rintro _ X ⟨⟨x,h7⟩,o,r⟩;have z:zH s a=b+jj zc9 (s.drop b):=by rw[z,gE x];simp only[Gd h7]
 rw[z];refine⟨Nat,fun k=>⟨[(0,At0 g)],[]⟩,fun k X=>k<=s.length/\k+jj zc9 (s.drop k)=b+jj zc9 (s.drop b)/\ScV X g s k op/\w.grownBy X (some g),fun k=>s.length-k,b,(cvE rfl rfl),⟨aa,rfl,o,r⟩,?_⟩;clear o r X;rintro k X ⟨hk,m,o,r⟩;dsimp only at hk m ⊢;refine cmo (zl4 o.cells (hlt o)) ?_;rintro e Y ⟨rfl,f⟩;have l:=o.below f;have q:=zfq r f;refine biE (fun d=>?_) fun d=>?_
 ·have d:jA s k=false:=by
   have u:(!jA s k)=true:=d;simpa using u
  have t:k<s.length:=by
   by_cases y:k<s.length
   ·exact y
   ·rw[zgE (by omega)] at d;cases d
  have hn:zc9 s[k]=true:=by
   rw[zbW t] at d;unfold zc9;rw[d];rfl
  rw[za5 t,Gd hn] at m;exact⟨_,zc l.cells (i:=1) rfl,(k+1:Nat),(zg (by omega)).trans (by omega),zew l (k+1) fun Z hZ gZ sZ=>⟨k+1,(cvE rfl rfl),⟨t,by omega,hZ,zf q gZ⟩,zdc (by omega)⟩⟩
 ·have d:jA s k=true:=by
   have u:(!jA s k)=false:=d;simpa using u
  have y:jj zc9 (s.drop k)=0:=by
   by_cases y:k<s.length
   ·rw[zbW y] at d;rw[za5 y,Gc];unfold zc9;rw[d];decide
   ·exact zfn (by omega)
  rw[y] at m;have m:k=b+jj zc9 (s.drop b):=by omega
  exact⟨⟨_,rfl⟩,by rw[<- m];exact l,q⟩
theorem zls{s:List UInt8}{a:Nat}(ha:a<=s.length):zH s a<=s.length:=by
 have b:zbx s a<=s.length:=zjm s a ha;unfold zH
 split
 ·split
  ·exact zjm s _ b
  ·exact b
 ·exact b
def qN:Enc Tok:=⟨fun t=>[u8 t.kind,zJ t.text,i64 t.pos],3,fun _=>rfl,by decide,fun a u hu=>by
 simp only[Ur,Qm,Ga] at hu;rcases hu with rfl | rfl | rfl <;> rfl⟩
theorem zkO{s:List UInt8}{a:Nat}(ha:a<s.length)(c:UInt8):a<zat s a c/\zat s a c<=s.length:=by
 unfold zat
 split
 ·have:=zjm (p:=qi) s (a+1) ha;omega
 ·split
  ·have:=zjm (p:=zaQ) s (a+1) ha;omega
  ·split
   ·rename_i h;have b:s[a+1]?=some 61:=by
     simp only[bAT,dE] at h;exact h.2
    have:=(Jo.1 b).1;omega
   ·omega
theorem zk1(s:List UInt8)(a e:Nat):(bs s).extract a e=bs ((s.drop a).take (e-a)):=by
 have h:((bs s).extract a e).data=(bs ((s.drop a).take (e-a))).data:=by
  rw[ByteArray.data_extract];apply KW.1;rw[JO];rfl
 exact ByteArray.ext h
theorem zpF{g a:Nat}{s:List UInt8}{op:Bool}{w:Wd}(h:ScV w g s a op)(ha:a<s.length)(hs:s.length<=140737488351232) :
  Calls PG 314 #[At0 g] w fun e w'=>e = .returned (.agg (qN.enc (ziG s a s[a])).toArray)/\ScV w' g s (zat s a s[a]) op/\w.grownBy w' (some g):=by
 refine qg 51 [At0 g] (.s .p (.s .p (.c .p .p))) Tryz.func314 ?_;obtain⟨z,hz⟩:=nm (qN.enc ⟨0,[],0⟩);obtain⟨W0,ab⟩:=nm ((w.alloc (.cells z.toArray 260)));have aa:Bw w W0:=by rw[ab];exact(zba _ _)
 have f0:W0.heap[w.heap.size]?=some (.cells z.toArray 260 (0,0)):=by rw[ab];exact zw w _
 have h0:ScV W0 g s a op:=h.below aa;have af:g<w.heap.size:=hlt h;refine⟨Nat,fun f=>⟨[(0,At0 g),(2,.pointer (some ⟨w.heap.size,0,none⟩)),(3,u8 (ze5 s[a])),(4,.func (.func f) #[] #[])],[]⟩,fun f X=>Bw W0 X /\
  ((zY s[a]=3/\f=328)\/(¬zY s[a]=3/\zY s[a]=4/\f=329)\/(¬zY s[a]=3/\¬zY s[a]=4/\f=327)),?_,?_⟩
 ·subst hz;subst ab;refine DrawE.ord [] [0,1,2,3,4,5,6,7,8,9,10,11] (by kernel_rfl) ?_;have hd:ScV (w.alloc (.cells (qN.enc ⟨0,[],0⟩).toArray 260)).drew g s a op:=h0;refine⟨_,zc hd.cells (i:=0) rfl,_,zc hd.cells (i:=1) rfl,a,rfl,ha,s[a],zbV ha,cmo (jw _ _) ?_⟩;rintro e _ ⟨rfl,rfl⟩;refine⟨UR _ _,biE (fun j=>?_) fun j=>?_⟩
  ·have j:zY s[a]=3:=by have j:(zY s[a]:Int)=3:=dT j;omega
   exact⟨_,⟨.cons rfl (.cons rfl (.cons (by unfold ze5;rw[Gd j];rfl) (.cons rfl .nil))),rfl⟩,(UR _ _).drew,.inl ⟨j,rfl⟩⟩
  have j:¬zY s[a]=3:=by have j:¬(zY s[a]:Int)=3:=dF j;omega
  refine biE (fun m=>?_) fun m=>?_
  ·have m:zY s[a]=4:=by have m:(zY s[a]:Int)=4:=dT m;omega
   exact⟨_,⟨.cons rfl (.cons rfl (.cons (by unfold ze5;rw[Gc j,Gd m];rfl) (.cons rfl .nil))),rfl⟩,(UR _ _).drew,.inr (.inl ⟨j,m,rfl⟩)⟩
  ·have m:¬zY s[a]=4:=by have m:¬(zY s[a]:Int)=4:=dF m;omega
   exact⟨_,⟨.cons rfl (.cons rfl (.cons (by unfold ze5;rw[Gc j,Gc m];rfl) (.cons rfl .nil))),rfl⟩,(UR _ _).drew,.inr (.inr ⟨j,m,rfl⟩)⟩
 rintro f V ⟨hV,hf⟩;dsimp only at hV hf ⊢;have d:=h0.below hV;obtain⟨e1,e2⟩:=zkO ha s[a];have ac:∀Y,Bw V Y->∀Z,ScV Z g s (zat s a s[a]) op->Y.grownBy Z (some g)->Bw w Y/\Z.heap[w.heap.size]?=some (.cells z.toArray 260 (0,0))/\w.grownBy Z (some g):=fun Y hY Z hZ l=>by
  have x:=((zst aa hV)).trans (hY.mono (by have:=aa.size;have:=hV.size;omega));have f1:=zb hY (zb hV f0);refine⟨x,(l.block _ (hlt f1) (fun e=>by simp only[KS] at e;omega)).trans f1,zf (zi x) l⟩
 have q:∀Z,Z.heap[w.heap.size]?=some (.cells z.toArray 260 (0,0))->w.grownBy Z (some g)->∀R,Z.grownBy R (some w.heap.size)->w.grownBy R (some g):=fun Z _ l R n =>
  ⟨n.os.trans l.os,n.tape.trans l.tape,n.output.trans l.output,UC l.size n.size,fun k hk ad=>(n.block k (nL hk l.size) (fun e=>by simp only[KS] at e;omega)).trans (l.block k hk ad)⟩
 have y:∀cs,cs=qN.enc (ziG s a s[a])->∀Z,Z.heap[w.heap.size]?=some (.cells z.toArray 260 (0,0))->∀(K:Wd->Prop),(∀R,R.heap[w.heap.size]?=some (.cells (qN.enc (ziG s a s[a])).toArray 260 (0,0))->Z.grownBy R (some w.heap.size)->K R) ->
   SatR ((storeVar 260 ⟨w.heap.size,0,none⟩ (.agg cs.toArray)).run PG Z) fun _ w'=>K w':=fun cs ae Z r K k=>by
  subst hz ae;exact zo (v := .agg (qN.enc (ziG s a s[a])).toArray) zji r rfl rfl rfl (k _ (zk r) (qp Z _ _))
 rcases hf with⟨j,rfl⟩ | ⟨j,m,rfl⟩ | ⟨j,m,rfl⟩
 ·refine⟨_,zc d.cells (i:=1) rfl,cmo (zmc d.cells ha hs) ?_⟩;rintro e _ ⟨rfl,rfl⟩;have o:Bw V V:=UR _ _;have t:=d;have ee:a+1+jj qi (s.drop (a+1))=zat s a s[a]:=by unfold zat;rw[Gd j]
  rw[ee];refine zew t (zat s a s[a]) fun Z hZ l sZ=>?_;obtain⟨x,r,u⟩:=ac V o Z hZ l;refine DrawE.ord [15] [0,1,2,3,4,5,6,7,8,9,10,11,12,13,14,15] (by kernel_rfl) ?_;have b:ScV Z.drew g s (zat s a s[a]) op:=hZ;refine⟨_,zc b.cells (i:=0) rfl,_,zc b.cells (i:=1) rfl,zat s a s[a],rfl,e2,a,rfl,by omega,?_⟩;refine⟨[u8 (ze5 s[a]),.string ((bs s).extract a (zat s a s[a])),i64 a],rfl,y _ (by rw[zk1];rfl) Z.drew r _ fun R fR n=>⟨_,rfl,za fR,rfl,?_,q Z.drew r (zf u (zi (UR _ Z).drew)) R n⟩⟩;exact(n.block g (hlt b) (fun e=>by simp only[KS] at e;omega)).trans b
 ·refine⟨_,zc d.cells (i:=1) rfl,cmo (zi4 d.cells ha hs) ?_⟩;rintro e _ ⟨rfl,rfl⟩;have o:Bw V V:=UR _ _;have t:=d;have ee:a+1+jj zaQ (s.drop (a+1))=zat s a s[a]:=by unfold zat;rw[Gc j,Gd m]
  rw[ee];refine zew t (zat s a s[a]) fun Z hZ l sZ=>?_;obtain⟨x,r,u⟩:=ac V o Z hZ l;refine DrawE.ord [15] [0,1,2,3,4,5,6,7,8,9,10,11,12,13,14,15] (by kernel_rfl) ?_;have b:ScV Z.drew g s (zat s a s[a]) op:=hZ;refine⟨_,zc b.cells (i:=0) rfl,_,zc b.cells (i:=1) rfl,zat s a s[a],rfl,e2,a,rfl,by omega,?_⟩;refine⟨[u8 (ze5 s[a]),.string ((bs s).extract a (zat s a s[a])),i64 a],rfl,y _ (by rw[zk1];rfl) Z.drew r _ fun R fR n=>⟨_,rfl,za fR,rfl,?_,q Z.drew r (zf u (zi (UR _ Z).drew)) R n⟩⟩;exact(n.block g (hlt b) (fun e=>by simp only[KS] at e;omega)).trans b
 ·refine⟨_,zc d.cells (i:=1) rfl,cmo (zml d.cells ha hs) ?_⟩;rintro e Y ⟨rfl,o⟩;have t:=d.below o;have ee:zfM s a s[a]=zat s a s[a]:=by unfold zat;rw[Gc j,Gc m];rfl
  rw[ee];refine zew t (zat s a s[a]) fun Z hZ l sZ=>?_;obtain⟨x,r,u⟩:=ac Y o Z hZ l;refine DrawE.ord [15] [0,1,2,3,4,5,6,7,8,9,10,11,12,13,14,15] (by kernel_rfl) ?_;have b:ScV Z.drew g s (zat s a s[a]) op:=hZ;refine⟨_,zc b.cells (i:=0) rfl,_,zc b.cells (i:=1) rfl,zat s a s[a],rfl,e2,a,rfl,by omega,?_⟩;refine⟨[u8 (ze5 s[a]),.string ((bs s).extract a (zat s a s[a])),i64 a],rfl,y _ (by rw[zk1];rfl) Z.drew r _ fun R fR n=>⟨_,rfl,za fR,rfl,?_,q Z.drew r (zf u (zi (UR _ Z).drew)) R n⟩⟩;exact(n.block g (hlt b) (fun e=>by simp only[KS] at e;omega)).trans b
def zdo (l:List UInt8):Nat:=l.foldl (fun v c=>10*v+(c.toNat-48)) 0
theorem zmC{s:List UInt8}{k:Nat}(h:k<s.length):zdo (s.take (k+1))=10*zdo (s.take k)+(s[k].toNat-48):=by
 unfold zdo;rw[tsg h,KL];rfl
theorem zqX{c:UInt8}(h:zaQ c=true):48<=c.toNat/\c.toNat<=57:=by
 unfold zaQ at h;have h:zY c=4:=dT h;unfold zY at h
 cases h1:ze6 c with
 | true=>rw [h1] at h;cases h
 | false =>
  rw[h1] at h
  cases h2:zgg c with
  | true=>unfold zgg at h2;simp at h2;omega
  | false =>
   rw[h2] at h
   revert h
   cases eqB c 32||eqB c 9 <;> cases eqB c 10 <;> cases eqB c 95 <;> cases eqB c 35 <;> cases zlC c <;> (intro h;cases h)
theorem zti(s:List UInt8)(hs:s.length<=140737488351232)(w:Wd):Calls PG 316 #[zJ s] w fun e w'=>∃v,e = .returned (.tuple #[u8 v,.bool (zh2 s)])/\w=w':=by
 refine qg 47 [zJ s] (.s .p (.c .p .p)) Tryz.func316 ?_;have a:zh2 s=(decide (1<=s.length)&&(decide (s.length<=3)&&(!(decide (s.head?=some 48)&&decide (1<s.length))&&(s.all zaQ&&decide (zdo s<=255))))):=rfl;refine⟨Unit,fun _=>⟨[(0,zJ s)],[]⟩,fun _ X=>(1<=s.length/\s.length<=3/\(decide (s.head?=some 48)&&decide (1<s.length))=false)/\w=X,?_,?_⟩
 ·refine biE (fun d=>?_) fun d=>?_
  ·have d:(s.length:Int)<1:=dT d;exact brT (brT ⟨0,by rw[a,QX (by omega)];rfl,rfl⟩)
  have d:¬(s.length:Int)<1:=dF d;refine biE (fun i=>?_) fun i=>?_
  ·have i:(3:Int)<(s.length:Int):=dT i;exact brT ⟨0,by rw[a,QX (p:=s.length<=3) (by omega)];simp;rfl,rfl⟩
  have i:¬(3:Int)<(s.length:Int):=dF i;have t:0<s.length:=by omega
  have u:s.head?=some s[0]:=by rw[List.head?_eq_getElem?,gE t]
  refine⟨0,rfl,t,s[0],zbV t,biE (fun h=>?_) fun h=>?_⟩
  ·have h:s[0]=48:=by
    apply QW.1;have h:((s[0].toNat:Nat):Int)=48:=dT h;have:(48:UInt8).toNat=48:=rfl;omega
   refine biE (fun n=>?_) fun n=>?_
   ·have n:(1:Int)<(s.length:Int):=dT n;exact⟨0,by rw[a,u,h,Uh (p:=1<s.length) (by omega)];simp;rfl,rfl⟩
   ·have n:¬(1:Int)<(s.length:Int):=dF n;exact⟨(),(cvE rfl rfl),⟨by omega,by omega,by rw[QX (p:=1<s.length) (by omega),QY]⟩,rfl⟩
  ·refine brF ?_;exact⟨(),(cvE rfl rfl),⟨by omega,by omega,by
    have:¬s[0]=48:=fun e=>by rw[e] at h;cases h
    rw[u,QX (by simpa using this),QZ]⟩,rfl⟩
 rintro _ _ ⟨⟨d,i,h⟩,rfl⟩;have a:zh2 s=(s.all zaQ&&decide (zdo s<=255)):=by rw[a,Uh d,Uh i,h];rfl
 rw[a];refine⟨Nat,fun k=>⟨[(0,zJ s),(4,i64 (zdo (s.take k):Nat)),(25,i64 s.length),(26,i64 (k:Nat))],[]⟩,fun k X=>k<=s.length/\(∀c∈s.take k,zaQ c=true)/\zdo (s.take k)<10^k/\w=X,fun k=>s.length-k,0,(cvE rfl rfl),⟨UP _,by simp,Nat.one_pos,rfl⟩,?_⟩;rintro k _ ⟨z,g,o,rfl⟩;dsimp only at z g o ⊢;refine biE (fun f=>?_) fun f=>?_
 ·have f:(k:Int)<(s.length:Int):=dT f;have l:k<s.length:=by omega
  refine⟨k,rfl,l,s[k],zbV l,cmo (jw _ _) ?_⟩;rintro e _ ⟨rfl,rfl⟩;have x:decide ((zY s[k]:Int)=4)=zaQ s[k]:=zbs (b:=4);refine biE (fun j=>?_) fun j=>?_
  ·have j:zaQ s[k]=false:=by
    have d:(!decide ((zY s[k]:Int)=4))=true:=j;rw[x] at d;simpa using d
   have:s.all zaQ=false:=by
    rw[KF];exact⟨s[k],gM _,by rw[j];simp⟩
   exact⟨0,by rw[this];rfl,rfl⟩
  ·have j:zaQ s[k]=true:=by
    have d:(!decide ((zY s[k]:Int)=4))=false:=j;rw[x] at d;simpa using d
   obtain⟨d1,d2⟩:=zqX j;have r:zdo (s.take k)<1000:=nL o (by
    have:k<=3:=(by omega);exact JY (by decide) this)
   have q:=zmC l;refine⟨((10*zdo (s.take k):Nat):Int),(zg (by omega)).trans (by omega),k,rfl,l,s[k],zbV l,((s[k].toNat-48:Nat):Int),(zcQ (by omega)).trans (by omega),((s[k].toNat-48:Nat):Int),(zg (by omega)).trans (by omega),(zdo (s.take (k+1)):Int),(zg (by omega)).trans (by omega),(k+1:Nat),(zg (by omega)).trans (by omega),k+1,(cvE rfl rfl),⟨l,?_,?_,rfl⟩,zdc (by omega)⟩
   ·rw[tsg l];intro c f;rcases QH.1 f with f | f
    ·exact g c f
    ·simp only[Kv] at f;rw[f];exact j
   ·rw[q,Nat.pow_succ];omega
 ·have f:¬(k:Int)<(s.length:Int):=dF f;obtain rfl:k=s.length:=by omega
  rw[Qn] at g o;have y:s.all zaQ=true:=Qa.2 g;rw[y,Qn];have r:zdo s<1000:=nL o (JY (by decide) i);refine biE (fun m=>?_) fun m=>?_
  ·have m:(255:Int)<(zdo s:Int):=dT m;exact⟨0,by rw[QX (by omega)];rfl,rfl⟩
  ·have m:¬(255:Int)<(zdo s:Int):=dF m;exact⟨((UInt8.ofNat (zdo s)).toNat:Int),(zcQ (by omega)).trans (by rw[KB];omega),UInt8.ofNat (zdo s),by rw[Uh (by omega)];rfl,rfl⟩
theorem zr2{t:Tok}(h:t.kind=3)(hl:0<t.text.length):qV t=if zY t.text[0]=6 then 0 else 40:=by
 obtain⟨k,x,p⟩:=t;have h:k=3:=h;subst h
 cases x with
 | nil=>exact Ge hl (Nat.lt_irrefl 0)
 | cons a r=>rfl
theorem zqt(t:Tok)(ht:t.kind=3->t.text≠[])(hs:t.text.length<=140737488351232)(w:Wd):CB 300 #[.agg (qN.enc t).toArray] w (i64 (qV t)):=by
 refine zC 30 [.agg (qN.enc t).toArray] Tryz.func300 ?_;have b:Bw w (w.alloc (.cells (qN.enc t).toArray 260)):=zba _ _;have m:=zw w (.cells (qN.enc t).toArray 260);have h:zF (w.alloc (.cells (qN.enc t).toArray 260)) ⟨w.heap.size,0,none⟩ [u8 t.kind,zJ t.text,i64 t.pos]:=za m;have g:∀k:UInt8,decide ((t.kind.toNat:Int)=(k.toNat:Int))=decide (t.kind=k):=fun k=>by
  rw[Qw];exact qm
 refine⟨_,zc h (i:=0) rfl,biE (fun f=>?_) fun f=>?_⟩
 ·have f:t.kind=1:=dT ((g 1).symm.trans f);have e:qV t=if 16<t.text.length then 42 else 0:=by unfold qV;rw[Gd f]
  rw[e];refine⟨_,zc h (i:=1) rfl,biE (fun c=>?_) fun c=>?_⟩
  ·have c:(16:Int)<(t.text.length:Int):=dT c;exact⟨by rw[Gd (by omega)];rfl,b⟩
  ·have c:¬(16:Int)<(t.text.length:Int):=dF c;exact⟨by rw[Gc (by omega)];rfl,b⟩
 have f:¬t.kind=1:=dF ((g 1).symm.trans f);refine biE (fun c=>?_) fun c=>?_
 ·have c:t.kind=2:=dT ((g 2).symm.trans c);have e:qV t=if zh2 t.text then 0 else 41:=by unfold qV;rw[Gc f,Gd c]
  rw[e];refine⟨_,zc h (i:=1) rfl,cmo (zti t.text hs _) ?_⟩;rintro e _ ⟨v,rfl,rfl⟩;refine biE (fun a=>?_) fun a=>?_
  ·have a:(!zh2 t.text)=true:=a;have a:zh2 t.text=false:=by simpa using a
   exact⟨by rw[a];rfl,b⟩
  ·have a:(!zh2 t.text)=false:=a;have a:zh2 t.text=true:=by simpa using a
   exact⟨by rw[a];rfl,b⟩
 have c:¬t.kind=2:=dF ((g 2).symm.trans c);refine biE (fun a=>?_) fun a=>?_
 ·have a:t.kind=3:=dT ((g 3).symm.trans a);have l:=ht a;have j:0<t.text.length:=List.length_pos_iff.2 l;have e:qV t=if zY t.text[0]=6 then 0 else 40:=zr2 a j
  rw[e];refine⟨_,zc h (i:=1) rfl,0,rfl,j,t.text[0],zbV j,cmo (jw _ _) ?_⟩;rintro e _ ⟨rfl,rfl⟩;refine biE (fun d=>?_) fun d=>?_
  ·have d:(!decide ((zY t.text[0]:Int)=6))=true:=d;have d:¬zY t.text[0]=6:=by simp at d;omega
   exact⟨by rw[Gc d];rfl,b⟩
  ·have d:(!decide ((zY t.text[0]:Int)=6))=false:=d;have d:zY t.text[0]=6:=by simp at d;omega
   exact⟨by rw[Gd d];rfl,b⟩
 have a:¬t.kind=3:=dF ((g 3).symm.trans a);exact⟨by unfold qV;rw[Gc f,Gc c,Gc a];rfl,b⟩
theorem zeK{a b c:Wd}{g r:Nat}(h:a.grownBy b (some g))(k:b.grownBy c (some r))(hr:a.heap.size<=r):a.grownBy c (some g) :=
 ⟨k.os.trans h.os,k.tape.trans h.tape,k.output.trans h.output,UC h.size k.size,fun i j d=>(k.block i (nL j h.size) (fun e=>by simp only[KS] at e;omega)).trans (h.block i j d)⟩
theorem zp9{x y:Int}{T:Array TypeId}{t:TypeId}{w:Wd}{K:Value->Wd->Prop}(k:K (.int .i64 (if y<x then y else x)) w):SatR ((Builtin.min_ T t [Value.int .i64 x,.int .i64 y].toArray).run PG w) K :=
 SatR.mk (v := .int .i64 (if y<x then y else x)) (w':=w) (by simp[Builtin.min_,Builtin.min2]) k
section
variable{s:List UInt8}{f a:Nat}{op:Bool}
theorem zi7(h:zH s a<s.length)(h2:¬zY s[zH s a]=2):jQ s (f+1) a op=some (ziG s (zH s a) s[zH s a],zat s (zH s a) s[zH s a],true):=by
 unfold jQ;rw[gE h];simp only[Gc h2]
theorem zf6(h:jA s (zH s a)=true):jQ s (f+1) a true=some (⟨4,[],zH s a⟩,min (zH s a+1) s.length,false):=by
 unfold jQ;by_cases b:zH s a<s.length
 ·rw[zbW b] at h;have h:=dT h;rw[gE b];simp only[Gd h];rfl
 ·rw[JE (by omega)];rfl
theorem zhh(h:s.length<=zH s a):jQ s (f+1) a false=none:=by
 unfold jQ;rw[JE h];rfl
theorem zhi(h:zH s a<s.length)(h2:zY s[zH s a]=2):jQ s (f+1) a false=jQ s f (min (zH s a+1) s.length) false:=by
 conv=>lhs;unfold jQ
 rw[gE h];simp only[Gd h2];rfl
theorem zlt:a<=zH s a:=by
 have b:a<=zbx s a:=Qp _ _;unfold zH
 split
 ·split
  ·omega
  ·exact b
 ·exact b
end
def ziz:Tok:=⟨0,[],0⟩
theorem zoe{g a:Nat}{s:List UInt8}{op:Bool}{w:Wd}(h:ScV w g s a op)(ha:a<=s.length)(hs:s.length<=140737488351232) :
  Calls PG 299 #[At0 g] w fun e w'=>∃t a' op' ok,e = .returned (.tuple #[.agg (qN.enc t).toArray,.bool ok])/\(ok=true->jQ s (s.length+2) a op=some (t,a',op'))/\(ok=false->jQ s (s.length+2) a op=none) /\
   a'<=s.length/\ScV w' g s a' op'/\w.grownBy w' (some g):=by
 refine zC 57 [At0 g] Tryz.func299 ?_;obtain⟨r,hr⟩:=nm (w.heap.size);have al:g<r:=by rw[hr];exact hlt h
 obtain⟨W0,l⟩:=nm (w.alloc (.cells (qN.enc ziz).toArray 260));have p:Bw w W0:=by rw[l];exact(zba _ _)
 have f0:W0.heap[r]?=some (.cells (qN.enc ziz).toArray 260 (0,0)):=by rw[l,hr];exact zw w _
 have h0:ScV W0 g s a op:=h.below p;refine⟨Nat×Nat×Bool,fun k=>⟨[(0,At0 g),(2,At0 r)],[]⟩,fun k X=>s.length+1<=k.1+k.2.1/\k.2.1<=s.length/\jQ s (k.1+1) k.2.1 k.2.2=jQ s (s.length+2) a op/\ScV X g s k.2.1 k.2.2/\w.grownBy X (some g)/\X.heap[r]?=some (.cells (qN.enc ziz).toArray 260 (0,0)),
  fun k=>s.length-k.2.1,(s.length+1,a,op),⟨.cons rfl (.cons (by rw[hr];rfl) .nil),rfl⟩,⟨by omega,ha,rfl,by subst l;exact h0,by subst l;exact zi p,by subst l;exact f0⟩,?_⟩
 clear l p f0 h0 W0;rintro⟨f,k,o⟩ X ⟨hf,hk,n,hX,gX,fX⟩;dsimp only at hf hk n hX gX fX ⊢;have c:∀(t:Tok) (Y:Wd),Y.heap[r]?=some (.cells (qN.enc ziz).toArray 260 (0,0))->∀(K:Wd->Prop),(∀R,R.heap[r]?=some (.cells (qN.enc t).toArray 260 (0,0))->Y.grownBy R (some r)->K R) ->
   SatR ((storeVar 260 ⟨r,0,none⟩ (.agg (qN.enc t).toArray)).run PG Y) fun _ w'=>K w':=fun t Y fY K q =>
  zo (v := .agg (qN.enc t).toArray) zji fY rfl rfl rfl (q _ (zk fY) (qp Y _ _))
 have b:∀{A B:Wd},A.grownBy B (some g)->A.heap[r]?=some (.cells (qN.enc ziz).toArray 260 (0,0))->B.heap[r]?=some (.cells (qN.enc ziz).toArray 260 (0,0)):=fun hg hA=>(hg.block _ (hlt hA) (fun e=>by simp only[KS] at e;omega)).trans hA;have d:∀{A B:Wd} {a:Nat} {o:Bool} {q:Nat},A.grownBy B (some q)->g≠q->ScV A g s a o->ScV B g s a o:=fun hg hq hA=>(hg.block _ (hlt hA) (fun e=>hq (by simpa using e))).trans hA;refine cmo (zrR hX hk hs) ?_;rintro e Y ⟨⟨v,rfl⟩,hY,gY⟩;have hp:=zls (s:=s) hk;have am:=zlt (s:=s) (a:=k);have fY:=b gY fX;have aj:=zf gX gY;refine cmo (zl4 hY.cells (hlt hY)) ?_;rintro e Z ⟨rfl,ac⟩;have hZ:=hY.below ac;have ae:=zfq aj ac;have fZ:=zb ac fY;refine biE (fun j=>?_) fun j=>?_
 ·have j:jA s (zH s k)=false:=by
   have h1:(!jA s (zH s k))=true:=j;simpa using h1
  have hl:zH s k<s.length:=by
   by_cases h1:zH s k<s.length
   ·exact h1
   ·rw[zgE (by omega)] at j;cases j
  rw[zbW hl] at j;have j:=dF j;rw[zi7 hl j] at n;refine ziT hZ true fun U hU gU sU=>?_;have z:=zf ae gU;have fU:=b gU fZ;refine cmo (zpF hU hl hs) ?_;rintro e V ⟨rfl,hV,gV⟩;have y:=zf z gV;exact c _ V (b gV fU) _ fun R fR gR=>⟨_,rfl,za fR,_,_,_,true,rfl,fun _=>n.symm,fun h=>(by cases h),(zkO hl _).2,d gR (by omega) hV,zeK y gR (by omega)⟩
 have j:jA s (zH s k)=true:=by
  have h1:(!jA s (zH s k))=false:=j;simpa using h1
 refine⟨_,zc hZ.cells (i:=1) rfl,qN.enc ⟨4,[],zH s k⟩,rfl,zr (X:=Z) (v := .agg (qN.enc ⟨4,[],zH s k⟩).toArray) zji rfl rfl rfl fun U u x sU=>?_⟩;have x:U.heap[Z.heap.size]?=some (.cells (qN.enc ⟨4,[],zH s k⟩).toArray 260 (0,0)):=x;have hU:=hZ.below u;have z:=zfq ae u;have fU:=zb u fZ;have ak:r<Z.heap.size:=hlt fZ;refine cmo (zh0 hU.cells) ?_;rintro e V ⟨rfl,m⟩;have hV:=hU.below m;have y:=zfq z m;have fV:=zb m fU;have ag:=zb m x;refine DrawE.ord [17] [0,1,2,3,4,5,6,7,8,9,10,11,12,13,14,15,16,17] (by kernel_rfl) ?_;have ab:ScV V.drew g s (zH s k) o:=hV;refine⟨_,zc ab.cells (i:=1) rfl,(zH s k+1:Nat),(zg (by omega)).trans (by omega),_,zc ab.cells (i:=0) rfl,zp9 ⟨UR _ _,?_⟩⟩;have ad:(if((s.length:Nat):Int)<((zH s k+1:Nat):Int) then((s.length:Nat):Int) else((zH s k+1:Nat):Int))=((min (zH s k+1) s.length:Nat):Int):=by
  split <;> omega
 have e5:Value.int .i64 (if(((bs s).size:Nat):Int)<((zH s k+1:Nat):Int) then(((bs s).size:Nat):Int) else((zH s k+1:Nat):Int))=i64 (min (zH s k+1) s.length:Nat):=by
  rw[show(bs s).size=s.length from rfl,ad];rfl
 rw[e5];refine zew ab (min (zH s k+1) s.length) fun R hR gR sR=>?_;have aa:=zf (zf y (zi (UR _ V).drew)) gR;have fR:=b gR (hdr fV);have af:R.heap[Z.heap.size]?=some (.cells (qN.enc ⟨4,[],zH s k⟩).toArray 260 (0,0)):=(gR.block _ (hlt (hdr ag)) (fun e=>by simp only[KS] at e;omega)).trans (hdr ag);refine⟨_,zc (za hR) (i:=2) rfl,biE (fun ho=>?_) fun ho=>?_⟩
 ·have ho:o=true:=ho;subst ho;rw[zf6 j] at n;refine ziT hR false fun T hT gT sT=>?_;have ai:=zf aa gT;have fT:=b gT fR;have ah:T.heap[Z.heap.size]?=some (.cells (qN.enc ⟨4,[],zH s k⟩).toArray 260 (0,0)):=(gT.block _ (hlt af) (fun e=>by simp only[KS] at e;omega)).trans af;exact⟨_,rfl,za ah,hlt ah,c ⟨4,[],zH s k⟩ T fT _ fun L fL gL=>⟨_,rfl,za fL,_,_,_,true,rfl,fun _=>n.symm,fun h=>(by cases h),Qs _ _,d gL (by omega) hT,zeK ai gL (by omega)⟩⟩
 ·have ho:o=false:=ho;subst ho;refine biE (fun h5=>?_) fun h5=>?_
  ·have h5:s.length<=zH s k:=dT h5;rw[zhh h5] at n;exact⟨qN.enc ziz,rfl,c ziz R fR _ fun L fL gL=>⟨_,rfl,za fL,_,_,_,false,rfl,fun h=>(by cases h),fun _=>n.symm,Qs _ _,d gL (by omega) hR,zeK aa gL (by omega)⟩⟩
  ·have h5:¬s.length<=zH s k:=dF h5;have hl:zH s k<s.length:=by omega
   have h2:zY s[zH s k]=2:=by rw[zbW hl] at j;exact dT j
   rw[zhi hl h2] at n;have an:min (zH s k+1) s.length=zH s k+1:=QQ (by omega);obtain⟨f',rfl⟩:∃f',f=f'+1:=⟨f-1,by omega⟩;exact⟨(f',min (zH s k+1) s.length,false),(cvE rfl rfl),⟨by show _<=f'+min _ _;omega,Qs _ _,n,hR,aa,fR⟩,by show s.length-min _ _<s.length-k;omega⟩
def bOp (op:Bool):Nat:=if op then 1 else 0
theorem zky{s:List UInt8}{f a a':Nat}{op op':Bool}{t:Tok}(h:jQ s (f+1) a op=some (t,a',op')) :
  (∃hl:zH s a<s.length,t=ziG s (zH s a) s[zH s a]/\a'=zat s (zH s a) s[zH s a]/\op'=true)\/(op=true/\t=⟨4,[],zH s a⟩/\a'=min (zH s a+1) s.length/\op'=false) \/
   (op=false/\zH s a<s.length/\jQ s f (min (zH s a+1) s.length) false=some (t,a',op')):=by
 by_cases b:zH s a<s.length
 ·by_cases c:zY s[zH s a]=2
  ·cases op with
   | true =>
    rw[zf6 (by rw[zbW b];exact Uh c)] at h;simp only[KS,Uu] at h;exact .inr (.inl ⟨rfl,h.1.symm,h.2.1.symm,h.2.2.symm⟩)
   | false =>
    rw[zhi b c] at h;exact .inr (.inr ⟨rfl,b,h⟩)
  ·rw[zi7 b c] at h;simp only[KS,Uu] at h;exact .inl ⟨b,h.1.symm,h.2.1.symm,h.2.2.symm⟩
 ·cases op with
  | true =>
   rw[zf6 (zgE (by omega))] at h;simp only[KS,Uu] at h;exact .inr (.inl ⟨rfl,h.1.symm,h.2.1.symm,h.2.2.symm⟩)
  | false=>rw [zhh (by omega)] at h;cases h
theorem zcB{s:List UInt8}{t:Tok}{a':Nat}{op':Bool}:∀{f a:Nat} {op:Bool},jQ s f a op=some (t,a',op')->a<=s.length ->
  a'<=s.length/\2*(s.length-a')+bOp op'<2*(s.length-a)+bOp op/\(t.kind=3->t.text≠[])/\t.text.length<=s.length
 | 0,_,_,h,_=>by cases h
 | f+1,a,op,h,ha=>by
  have j:=zlt (s:=s) (a:=a);have e:=zls ha;rcases zky h with⟨c,rfl,rfl,rfl⟩ | ⟨rfl,rfl,rfl,rfl⟩ | ⟨rfl,c,k⟩
  ·obtain⟨l,i⟩:=zkO c s[zH s a];refine⟨i,?_,fun _=>?_,?_⟩
   ·have:bOp true=1:=rfl;omega
   ·intro g;have b:((s.drop (zH s a)).take (zat s (zH s a) s[zH s a]-zH s a)).length=0:=by
     have:(ziG s (zH s a) s[zH s a]).text=[]:=g;exact UY List.length this
    rw[Ql,Qk] at b;omega
   ·show((s.drop (zH s a)).take _).length<=_;rw[Ql,Qk];omega
  ·refine⟨Qs _ _,?_,fun h=>(by cases h),UP _⟩;have b:bOp true=1:=rfl;have n:bOp false=0:=rfl;omega
  ·obtain⟨b,m,d⟩:=zcB k (Qs _ _);refine⟨b,?_,d⟩;omega
theorem zg2{s:List UInt8}{f a a':Nat}{op op':Bool}{t:Tok}(h:jQ s (s.length+2) a op=some (t,a',op')):zbL s (f+1) a op=t::zbL s f a' op':=by
 show(match jQ s (s.length+2) a op with
  | some (t,a',op')=>t::zbL s f a' op'
  | none=>[])=_
 rw[h]
theorem zg1{s:List UInt8}{f a:Nat}{op:Bool}(h:jQ s (s.length+2) a op=none):zbL s (f+1) a op=[]:=by
 show(match jQ s (s.length+2) a op with
  | some (t,a',op')=>t::zbL s f a' op'
  | none=>[])=_
 rw[h]
def StT (pre:List Tok) (vs:List Value) (_:Wd):Prop:=∃t,pre.getLast?=some t/\vs=[.agg (qN.enc t).toArray,i64 (qV t)]
theorem znA{g:Nat}{w:Wd}:Calls PG 229 #[At0 g] w fun e w'=>e = .returned (.func (.func 298) #[] #[.pointer (some ⟨w.heap.size,0,none⟩)])/\w'=w.alloc (.cells #[At0 g] 380):=by
 refine zC 4 [At0 g] Tryz.func229 ?_;exact⟨rfl,rfl⟩
theorem zme{g bx:Nat}{s:List UInt8}{W0:Wd}(h:ScV W0 g s 0 false)(hbx:W0.heap[bx]?=some (.cells #[At0 g] 380 (0,0)))(hne:bx≠g)(hs:s.length<=140737488351232) :
  zrB PG 298 [At0 bx] (qz s) W0 (fun k=>k=bx) (fun k=>k=g) StT:=by
 intro yl Fp J Jx W a4 ap au hJ a3 hy h0;have ak:W.heap[bx]?=some (.cells #[At0 g] 380 (0,0)):=(ap bx (.inl rfl)).trans hbx;have a0:ScV W g s 0 false:=(ap g (.inr rfl)).trans h;have a2:bx<W0.heap.size:=hlt hbx;have a7:g<W0.heap.size:=hlt h;refine zC 23 [.func (.yield yl) #[] #[],At0 bx] Tryz.func298 ?_
 let Inv:List Tok->Wd->Prop:=fun b X=>J b X/\W.heap.size<=X.heap.size/\X.heap[bx]?=some (.cells #[At0 g] 380 (0,0))/\¬Fp X bx
 have m:∀b X Y,Inv b X->X.grownBy Y (some g)->Inv b Y/\∀k,Fp Y k->Fp X k:=fun b X Y ⟨j,r,n,h4⟩ x=>by
  have aa:StepO W.heap.size (fun k=>k=g) Fp X Y:=⟨x.os,x.tape,x.output,x.size,fun k hk d=>x.block k hk (fun e=>by
   have e:g=k:=(by simpa using e:k=g).symm;rcases d with d | d
   ·exact d.2 e.symm
   ·exact(hJ.lt _ _ _ j d).2 e.symm)⟩
  obtain⟨j1,j2⟩:=hJ.step _ _ _ j aa;refine⟨⟨j1,UC r x.size,(x.block _ (hlt n) (fun e=>hne (by simpa using e))).trans n,fun d=>h4 (j2 _ d)⟩,j2⟩
 have l:∀b X Y,Inv b X->Bw X Y->Inv b Y/\∀k,Fp Y k->Fp X k:=fun b X Y hI hb=>m b X Y hI (zi hb);have I0:Inv [] W:=⟨h0,UN _,ak,au bx rfl⟩;refine⟨_,zc (za ak) (i:=0) rfl,cmo (zoe a0 (UP _) hs) ?_⟩;rintro e Y ⟨t,a,op,ok,rfl,c,ai,ha,hY,gY⟩;obtain⟨I1,_⟩:=m [] W Y I0 gY;refine zr (X:=Y) (v := .agg (qN.enc t).toArray) zji rfl rfl rfl fun Z z fZ sZ=>?_;have fZ:Z.heap[Y.heap.size]?=some (.cells (qN.enc t).toArray 260 (0,0)):=fZ;obtain⟨I2,q2⟩:=l [] Y Z I1 z;refine⟨List Tok×Nat×Nat×Bool×Bool×Tok×Nat,fun q=>⟨[(0,.func (.yield yl) #[] #[]),(1,At0 bx),(3,.pointer (some ⟨q.2.2.2.2.2.2,0,none⟩)),(4,.bool q.2.2.2.2.1)],[]⟩,
  fun q X=>Inv q.1 X/\(q.2.2.2.2.1=true->qz s=q.1++q.2.2.2.2.2.1::zbL s q.2.1 q.2.2.1 q.2.2.2.1)/\(q.2.2.2.2.1=false->qz s=q.1)/\(q.2.2.2.2.1=true->2*(s.length-q.2.2.1)+bOp q.2.2.2.1<q.2.1)/\q.2.2.1<=s.length/\ScV X g s q.2.2.1 q.2.2.2.1 /\
   X.heap[q.2.2.2.2.2.2]?=some (.cells (qN.enc q.2.2.2.2.2.1).toArray 260 (0,0))/\W.heap.size<=q.2.2.2.2.2.2/\¬Fp X q.2.2.2.2.2.2/\(q.2.2.2.2.1=true->(q.2.2.2.2.2.1.kind=3->q.2.2.2.2.2.1.text≠[])/\q.2.2.2.2.2.1.text.length<=s.length),
  fun q=>q.2.1,([],2*s.length+2,a,op,ok,t,Y.heap.size),(cvE rfl rfl),⟨I2,?_,?_,?_,ha,hY.below z,fZ,gY.size,?_,?_⟩,?_⟩
 ·intro j;exact zg2 (c j)
 ·intro j;exact zg1 (ai j)
 ·intro n;have:=(zcB (c n) (UP _)).2.1;have h0:bOp false=0:=rfl;dsimp only;omega
 ·intro d;have h9:Y.heap.size<Y.heap.size:=(hJ.lt _ _ _ I1.1 (q2 _ d)).1;omega
 ·intro j;exact(zcB (c j) (UP _)).2.2
 clear I2 q2 fZ z sZ I1 gY hY c ai ha;rintro⟨b,f,a,op,ok,t,tb⟩ X ⟨hI,j,r,d,ha,hX,ft,az,ad,ah⟩;dsimp only at hI j r d ha hX ft az ad ah ⊢;refine biE (fun c=>?_) fun c=>?_
 ·have c:ok=true:=c;subst c;have j:=j rfl;have d:=d rfl;obtain⟨g1,g2⟩:=ah rfl;have u:(b++[t]) <+: qz s:=⟨zbL s f a op,by rw[j];simp⟩;refine DrawE.ord [4] [0,1,2,3,4,5] (by kernel_rfl) ⟨_,rfl,za (hdr ft),hlt (hdr ft),_,rfl,za (hdr ft),hlt (hdr ft),cmo (zqt t g1 (by omega) X.drew) ?_⟩;rintro e U ⟨rfl,aj⟩;refine⟨aj,?_⟩;have ac:Bw X U:=(UR _ X).drew.trans aj;obtain⟨IU,qU⟩:=l b X U hI ac;have fU:=zb ac ft;have hU:=hX.below ac;have am:¬Fp U tb:=fun h=>ad (qU _ h);refine YieldR.mono (hy b t _ U IU.1 ⟨t,by simp,rfl⟩ u) ?_;rintro v V (⟨rfl,ab,o⟩ | ⟨rfl,ab⟩)
  ·refine UV (fun h=>by cases h) (fun _=>?_);have IU':=IU;obtain⟨_,a6,w,ao⟩:=IU';have a5:=o.size;have aq:¬Fp U g:=fun h=>(hJ.lt _ _ _ IU.1 h).2 rfl;have ax:V.heap[bx]?=_:=(o.same bx (hlt w) ao).trans w;have hV:ScV V g s a op:=(o.same g (hlt hU) aq).trans hU;have fV:=(o.same tb (hlt fU) am).trans fU;have nF:∀k,k<U.heap.size->¬Fp U k->¬Fp V k:=fun k hk j r=>by
    rcases o.fp k r with n | n
    ·exact j n
    ·omega
   have IV:Inv (b++[t]) V:=⟨ab,by omega,ax,nF bx (hlt w) ao⟩;refine⟨_,rfl,za fV,hlt fV,zr (X:=V) (v := .agg (qN.enc t).toArray) zji rfl rfl rfl fun R al fR sR=>?_⟩;have fR:R.heap[V.heap.size]?=some (.cells (qN.enc t).toArray 260 (0,0)):=fR;obtain⟨IR,qR⟩:=l (b++[t]) V R IV al;have a1:¬Fp R V.heap.size:=fun h=>by have:=(hJ.lt _ _ _ IV.1 (qR _ h)).1;omega
   refine⟨_,zc (za IR.2.2.1) (i:=0) rfl,cmo (zoe (hV.below al) ha hs) ?_⟩;rintro e L ⟨t',a',ar,ay,rfl,p,ag,av,hL,gL⟩;obtain⟨IL,qL⟩:=m (b++[t]) R L IR gL;have aw:W.heap.size<=V.heap.size:=IV.2.1;have af:g≠V.heap.size:=by omega
   have an:bx≠V.heap.size:=by omega
   have fL:L.heap[V.heap.size]?=some (.cells (qN.enc t).toArray 260 (0,0)):=(gL.block _ (hlt fR) (fun e=>af (by simpa using e.symm))).trans fR;refine zo (v := .agg (qN.enc t').toArray) zji fL rfl rfl rfl ?_;obtain⟨y,rfl⟩:∃y,f=y+1:=⟨f-1,by omega⟩;have ae:¬Fp L V.heap.size:=fun h=>a1 (qL _ h);have aa:StepO W.heap.size (fun k=>k=g) Fp L (L.setRow V.heap.size (Value.agg (qN.enc t').toArray).cells):=⟨rfl,rfl,rfl,by simp,fun k hk d=>zq (fun e=>by
    subst e;rcases d with d | d
    ·omega
    ·exact ae d)⟩
   obtain⟨j1,j2⟩:=hJ.step _ _ _ IL.1 aa;refine⟨(b++[t],y,a',ar,ay,t',V.heap.size),(cvE rfl rfl),⟨⟨j1,by simp;exact IL.2.1,(zq an).trans IL.2.2.1,fun h=>IL.2.2.2 (j2 _ h)⟩,?_,?_,?_,av,(zq af).trans hL,zk fL,aw,fun h=>ae (j2 _ h),?_⟩,by show y<y+1;omega⟩
   ·intro n;rw[j];show b++t::zbL s (y+1) a op=(b++[t])++_;rw[zg2 (p n)];simp
   ·intro n;rw[j];show b++t::zbL s (y+1) a op=b++[t];rw[zg1 (ag n)]
   ·intro n;have:=(zcB (p n) ha).2.1;dsimp only;omega
   ·intro n;exact(zcB (p n) ha).2.2
  ·exact UV (fun _=>UV ⟨_,rfl⟩ (.inr ⟨_,u,ab⟩)) (fun h=>by cases h)
 ·have c:ok=false:=c;subst c;have r:=r rfl;exact⟨⟨_,rfl⟩,.inl (by rw[r];exact hI.1)⟩
def zcE (s:List UInt8):Bool:=decide (s.length<=16384)&&(qz s).all (fun t=>decide (qV t=0))
theorem ziF{s:List UInt8}:∀{f a:Nat} {op:Bool},(zbL s f a op).length<=f
 | 0,_,_=>UN _
 | f+1,a,op=>by
  unfold zbL
  split
  ·exact Nat.succ_le_succ ziF
  ·exact UP _
def FpX (L:Nat) (X:Wd) (k:Nat):Prop:=k=L\/k=L+1\/k=L+2\/∃a n cap,X.heap[L]?=some (.cells #[.slice (some a) n cap] 255 (0,0))/\k=a.block
structure ResX (L:Nat) (X:Wd) (v:Value) (pl er:Int):Prop where
 l:X.heap[L]?=some (.cells #[v] 255 (0,0))
 p:X.heap[L+1]?=some (.cells #[i64 pl] 3 (0,0))
 e:X.heap[L+2]?=some (.cells #[i64 er] 33 (0,0))
def JX (w:Wd) (L B:Nat) (pre:List Tok) (X:Wd):Prop:=Bw w X/\(∀t∈pre,qV t=0)/\∃p cap,ResX L X (.slice p pre.length cap) 0 0/\OwnS qN 260 B X p cap pre
def JxX (w:Wd) (L:Nat) (pre:List Tok) (X:Wd):Prop:=Bw w X/\(∃t∈pre,qV t≠0)/\∃pl er,ResX L X (.slice none 0 0) pl er/\er≠0
theorem FpX.row{L:Nat}{X:Wd}{p:OA}{n cap:Nat}{pl er:Int}(h:ResX L X (.slice p n cap) pl er){k:Nat}(hf:FpX L X k):k=L\/k=L+1\/k=L+2\/∃a,p=some a/\k=a.block:=by
 rcases hf with hf | hf | hf | ⟨a,e,b,d,c⟩
 ·exact .inl hf
 ·exact .inr (.inl hf)
 ·exact .inr (.inr (.inl hf))
 ·have:=h.l;rw[d] at this;simp at this;exact .inr (.inr (.inr ⟨a,this.1.symm,c⟩))
theorem ResX.same{L:Nat}{A B:Wd}{v:Value}{pl er:Int}(h:ResX L A v pl er)(hs:∀k,k=L\/k=L+1\/k=L+2->B.heap[k]?=A.heap[k]?):ResX L B v pl er :=
 ⟨(hs L (.inl rfl)).trans h.l,(hs _ (.inr (.inl rfl))).trans h.p,(hs _ (.inr (.inr rfl))).trans h.e⟩
theorem JX.iter{w:Wd}{L B n0 g:Nat}(hw:w.heap.size<=L)(hL:L+2<g)(hg:g<n0)(hB:B=n0):IterJO n0 (fun k=>k=g) (FpX L) (JX w L B):=by
 subst hB;refine⟨fun n A C ⟨f,s,p,i,b,o⟩ d=>?_,fun n A k ⟨f,s,p,i,b,o⟩ c=>?_⟩
 ·have m:ResX L C (.slice p n.length i) 0 0:=b.same fun k c=>d.same k (by rcases c with rfl | rfl | rfl;exact hlt b.l;exact hlt b.p;exact hlt b.e) (.inl ⟨by omega,by omega⟩);have zck:∀a,p=some a->C.heap[a.block]?=A.heap[a.block]?:=fun a t=>by
   rcases o.inv with⟨rfl,_⟩ | ⟨r,q,rfl,_,j,_⟩
   ·cases t
   ·cases t
    exact d.same _ (hlt j) (.inr (.inr (.inr (.inr ⟨_,_,_,b.l,rfl⟩))))
  refine⟨⟨⟨d.os.trans f.os,d.tape.trans f.tape,d.output.trans f.output,UC f.size d.size,fun k c=>(d.same k (nL c f.size) (.inl ⟨by omega,by omega⟩)).trans (f.block k c)⟩,s,p,i,m,o.same zck⟩,fun k c=>?_⟩;rcases FpX.row m c with rfl | rfl | rfl | ⟨a,rfl,rfl⟩
  ·exact .inl rfl
  ·exact .inr (.inl rfl)
  ·exact .inr (.inr (.inl rfl))
  ·exact .inr (.inr (.inr ⟨_,_,_,b.l,rfl⟩))
 ·rcases FpX.row b c with rfl | rfl | rfl | ⟨a,rfl,rfl⟩
  ·exact⟨hlt b.l,by omega⟩
  ·exact⟨hlt b.p,by omega⟩
  ·exact⟨hlt b.e,by omega⟩
  ·rcases o.inv with⟨h,_⟩ | ⟨r,q,h,hB,j,_⟩
   ·cases h
   ·cases h
    exact⟨hlt j,by show ¬r=g;omega⟩
theorem JxX.iter{w:Wd}{L n0 g:Nat}(hw:w.heap.size<=L)(hL:L+2<g)(hg:g<n0):IterJO n0 (fun k=>k=g) (FpX L) (JxX w L):=by
 refine⟨fun j A C ⟨d,q,m,n,b,o⟩ f=>?_,fun j A k ⟨d,q,m,n,b,o⟩ c=>?_⟩
 ·have i:ResX L C (.slice none 0 0) m n:=b.same fun k c=>f.same k (by rcases c with rfl | rfl | rfl;exact hlt b.l;exact hlt b.p;exact hlt b.e) (.inl ⟨by omega,by omega⟩);refine⟨⟨⟨f.os.trans d.os,f.tape.trans d.tape,f.output.trans d.output,UC d.size f.size,fun k c=>(f.same k (nL c d.size) (.inl ⟨by omega,by omega⟩)).trans (d.block k c)⟩,q,m,n,i,o⟩,fun k c=>?_⟩;rcases FpX.row i c with rfl | rfl | rfl | ⟨a,h,_⟩
  ·exact .inl rfl
  ·exact .inr (.inl rfl)
  ·exact .inr (.inr (.inl rfl))
  ·cases h
 ·rcases FpX.row b c with rfl | rfl | rfl | ⟨a,h,_⟩
  ·exact⟨hlt b.l,by omega⟩
  ·exact⟨hlt b.p,by omega⟩
  ·exact⟨hlt b.e,by omega⟩
  ·cases h
abbrev nl0:Value := .slice none 0 0
theorem ztk(s:List UInt8)(hs:s.length<=140737488351232)(w:Wd) :
  Calls PG 170 #[zJ s] w fun e w'=>∃p cap n pl er,e = .returned (.tuple #[.slice p n cap,i64 pl,i64 er])/\(zcE s=true->er=0/\n=(qz s).length/\SlR qN w' p (qz s))/\(zcE s=false->er≠0)/\Bw w w':=by
 refine qg 27 [zJ s] (.c .p (.c .p .p)) Tryz.func170 ?_;obtain⟨L,hL⟩:=nm (w.heap.size);have z1:(w.alloc (.cells #[nl0] 255)).heap.size=L+1:=by rw[wz,hL]
 have z2:((w.alloc (.cells #[nl0] 255)).alloc (.cells #[i64 0] 3)).heap.size=L+2:=by rw[wz,z1]
 obtain⟨W0,ab⟩:=nm (((w.alloc (.cells #[nl0] 255)).alloc (.cells #[i64 0] 3)).alloc (.cells #[i64 0] 33));have aq:Bw w W0:=by rw[ab];exact(((zba _ _)).alloc (by simp) _).alloc (by rw[z2];omega) _
 have bp:W0.heap.size=L+3:=by rw[ab,wz,z2]
 have r0:ResX L W0 nl0 0 0:=by
  rw[ab];refine⟨?_,?_,?_⟩
  ·rw[hL];exact z6 _ (z6 _ (zw w _))
  ·rw[<- z1];exact z6 _ (zw _ _)
  ·rw[<- z2];exact zw _ _
 have p1:some (Value.pointer (some ⟨(w.alloc (.cells #[nl0] 255)).heap.size,0,none⟩))=some (At0 (L+1)):=by rw[z1]
 have p2:some (Value.pointer (some ⟨((w.alloc (.cells #[nl0] 255)).alloc (.cells #[i64 0] 3)).heap.size,0,none⟩))=some (At0 (L+2)):=by rw[z2]
 have ah:∀(X:Wd) (v0:Value) (a0 b0:Int),ResX L X v0 a0 b0->∀(pl er:Int) (K:Wd->Prop),(∀Y,ResX L Y (.slice none 0 0) pl er->Below w.heap.size X Y->X.heap.size=Y.heap.size->(∀k,k≠L->k≠L+1->k≠L+2->Y.heap[k]?=X.heap[k]?)->K Y) ->
   SatR ((storeVar 255 ⟨L,0,none⟩ (.slice none 0 0)).run PG X) fun _ Y1=>SatR ((storeVar 3 ⟨L+1,0,none⟩ (i64 pl)).run PG Y1) fun _ Y2=>SatR ((storeVar 33 ⟨L+2,0,none⟩ (i64 er)).run PG Y2) fun _ Y3=>K Y3:=by
  intro X v0 a0 b0 f pl er K k;refine zo (v := .slice none 0 0) zqh f.l rfl rfl rfl ?_;have q1:(X.setRow L (Value.slice none 0 0).cells).heap[L+1]?=some (.cells #[i64 a0] 3 (0,0)):=(zq (by omega)).trans f.p;refine zo (v:=i64 pl) k3 q1 rfl rfl rfl ?_;have q2:((X.setRow L (Value.slice none 0 0).cells).setRow (L+1) (i64 pl).cells).heap[L+2]?=some (.cells #[i64 b0] 33 (0,0)):=(zq (by omega)).trans ((zq (by omega)).trans f.e);refine zo (v:=i64 er) k33 q2 rfl rfl rfl (k _ ⟨?_,?_,zk q2⟩ ?_ (by simp) ?_)
  ·exact(zq (by omega)).trans ((zq (by omega)).trans (zk f.l))
  ·exact(zq (by omega)).trans (zk q1)
  ·exact zh (zh (zh (UR _ X) (by omega) _) (by omega) _) (by omega) _
  ·intro k b z h3;exact(zq h3).trans ((zq z).trans (zq b))
 refine⟨Unit,fun _=>⟨[(0,zJ s),(2,At0 L),(3,At0 (L+1)),(4,At0 (L+2))],[]⟩,fun _ X=>W0=X,?_,?_⟩
 ·exact⟨(),⟨.cons rfl (.cons (by rw[hL];rfl) (.cons p1 (.cons p2 .nil))),rfl⟩,ab⟩
 clear ab p1 p2 z1 z2;rintro _ _ rfl;refine⟨Unit,fun _=>⟨[(0,zJ s),(2,At0 L),(3,At0 (L+1)),(4,At0 (L+2))],[]⟩,fun _ X=>s.length<=16384/\W0=X,?_,?_⟩
 ·refine biE (fun h=>?_) fun h=>?_
  ·have h:(16384:Int)<(s.length:Int):=dT h;have a6:zcE s=false:=by unfold zcE;rw[QX (by omega)];rfl
   exact ah W0 _ _ _ r0 0 3 _ fun Y hY hb bm _=>⟨_,zc (za hY.l) (i:=0) rfl,_,zc (za hY.p) (i:=0) rfl,_,zc (za hY.e) (i:=0) rfl,none,0,0,0,3,rfl,fun h=>(by rw[a6] at h;cases h),fun _=>by decide,aq.trans hb⟩
  ·have h:¬(16384:Int)<(s.length:Int):=dF h;exact⟨(),(cvE rfl rfl),by omega,rfl⟩
 rintro _ _ ⟨ax,rfl⟩;refine⟨[zJ s,i64 0],rfl,[zJ s,i64 0,.bool false],rfl,zr (X:=W0) (v := .agg #[zJ s,i64 0,.bool false]) ztw rfl rfl rfl fun V bd fV sV=>?_⟩;have hV:ScV V W0.heap.size s 0 false:=fV;refine cmo znA ?_;rintro e W1 ⟨rfl,ak⟩;have bk:W1.heap.size=W0.heap.size+2:=by rw[ak,wz,sV]
 have ao:Bw V W1:=by rw[ak];exact(zba _ _)
 have a5:W1.heap[W0.heap.size+1]?=some (.cells #[.pointer (some ⟨W0.heap.size,0,none⟩)] 380 (0,0)):=by
  rw[ak,<- sV];exact zw V _
 have a3:ScV W1 W0.heap.size s 0 false:=hV.below ao;have ai:Bw W0 W1:=zst bd ao;have av:Bw w W1:=zst aq ai;have r1:ResX L W1 nl0 0 0:=r0.same fun k m=>ai.block k (by omega);have bf:(qz s).length<=40000:=UC ziF (by omega);have az:(∀t∈qz s,qV t=0)->zcE s=true:=fun h=>by
  unfold zcE;rw[Uh ax,Un,Qa];exact fun t ht=>Uh (h t ht)
 have ar:(∃t∈qz s,qV t≠0)->zcE s=false:=fun⟨t,ht,y⟩=>by
  unfold zcE;rw[Uh ax,Un,KF];exact⟨t,ht,by simpa using y⟩
 rw[sV];refine zrM (zes _) rfl (lb := #[.pointer (some ⟨W0.heap.size+1,0,none⟩)]) rfl rfl (zme a3 a5 (by omega) hs) (UN _) (fun k m=>⟨by rcases m with rfl | rfl <;> omega,rfl⟩) (fun d vs W ⟨t,_,h⟩=>by rw[h];rfl) (by decide)
  (FpX L) (JX w L W1.heap.size) (fun ex d X=>ex = .ret/\JxX w L d X) ?_ (JX.iter (by omega) (by omega) (by omega) rfl) (fun ex=>?_) ?_ ?_ ?_ ?_
 ·intro k m y;rcases FpX.row r1 y with h | h | h | ⟨a,h,_⟩
  ·omega
  ·omega
  ·omega
  ·cases h
 ·have hJ:=JxX.iter (w:=w) (L:=L) (n0:=W1.heap.size) (g:=W0.heap.size) (by omega) (by omega) (by omega);exact⟨fun d A C ⟨b,z⟩ hs=>⟨⟨b,(hJ.step _ _ _ z hs).1⟩,(hJ.step _ _ _ z hs).2⟩,fun d A k ⟨_,z⟩ y=>hJ.lt _ _ _ z y⟩
 ·exact⟨av,fun t ht=>(by cases ht),none,0,r1,.nil⟩
 ·intro yl d x vs W bl ac hJ a8 bq bj;obtain⟨t,ht,rfl⟩:=a8;have ht:t=x:=by simpa using ht.symm
  subst ht;have a4:=JX.iter (w:=w) (L:=L) (B:=W1.heap.size) (n0:=W1.heap.size) (g:=W0.heap.size) (by omega) (by omega) (by omega) rfl;refine zr (X:=W) (v := .agg (qN.enc t).toArray) zji rfl rfl rfl fun R aw fR sR=>?_;have fR:R.heap[W.heap.size]?=some (.cells (qN.enc t).toArray 260 (0,0)):=fR;obtain⟨jR,qR⟩:=a4.step d W R hJ (Step.of_below aw).o;refine⟨rfl,Keeps.of_below aw (fun k m => .inl (qR k m)),jR,?_⟩;rintro o W2 an ⟨r,aj,p,cap,f,ho⟩ bo;have f2:W2.heap[W.heap.size]?=some (.cells (qN.enc t).toArray 260 (0,0)):=by rw[an,zj (by omega)];exact fR
  have s2:W2.heap.size=R.heap.size:=by rw[an];simp[World.putObj]
  have bn:W1.heap.size<=W.heap.size:=by
   have:=hlt f.l;obtain⟨bg,_⟩:=hJ;omega
  refine biE (fun h=>?_) fun h=>?_
  ·have h:qV t≠0:=by
    have b:(!decide (qV t=0))=true:=h;simpa using b
   have ad:ResX L W2.drew (.slice p d.length cap) 0 0:=⟨f.l,f.p,f.e⟩;have hd:W2.drew.heap.size=W2.heap.size:=rfl;have ap:∀Y,ResX L Y (.slice none 0 0) t.pos (qV t)->Below w.heap.size W2.drew Y->W2.drew.heap.size=Y.heap.size->(∀k,k≠L->k≠L+1->k≠L+2->Y.heap[k]?=W2.drew.heap[k]?)->(Exit.ret=Exit.ret/\JxX w L (d++[t]) Y)/\Keeps (FpX L) W2 Y:=fun Y hY ae bb a7=>by
    have ay:Bw w Y:=r.trans ((UR w.heap.size W2).drew.trans ae);refine⟨⟨rfl,ay,⟨t,by simp,h⟩,_,_,hY,h⟩,ae.os,ae.tape,ae.output,by rw[<- bb,hd];exact UN _,fun k m y=>a7 k (fun e=>y (.inl e)) (fun e=>y (.inr (.inl e))) (fun e=>y (.inr (.inr (.inl e)))),fun k m=>?_⟩;rcases FpX.row hY m with b | b | b | ⟨a,b,_⟩
    ·exact .inl (.inl b)
    ·exact .inl (.inr (.inl b))
    ·exact .inl (.inr (.inr (.inl b)))
    ·cases b
   refine DrawE.treeQ [3,4,5] (.op 0 (.op 2 (.alt (.op 3 (.op 1 (.op 4 (.op 5 .nil)))) (.op 1 (.op 3 (.op 4 (.op 5 .nil))))))) (by kernel_rfl) (UV ?_ ?_)
   ·refine zo (v := .slice none 0 0) zqh ad.l rfl rfl rfl ?_;have q0:(W2.drew.setRow L (Value.slice none 0 0).cells).heap[W.heap.size]?=some (.cells (qN.enc t).toArray 260 (0,0)):=(zq (by omega)).trans (hdr f2);refine⟨_,zc (za q0) (i:=2) rfl,?_⟩;have q1:(W2.drew.setRow L (Value.slice none 0 0).cells).heap[L+1]?=some (.cells #[i64 0] 3 (0,0)):=(zq (by omega)).trans ad.p;refine zo (v:=i64 t.pos) k3 q1 rfl rfl rfl ?_;have q2:((W2.drew.setRow L (Value.slice none 0 0).cells).setRow (L+1) (i64 t.pos).cells).heap[L+2]?=some (.cells #[i64 0] 33 (0,0)):=(zq (by omega)).trans ((zq (by omega)).trans ad.e);refine zo (v:=i64 (qV t)) k33 q2 rfl rfl rfl (ap _ ⟨?_,?_,zk q2⟩ ?_ (by simp) ?_)
    ·exact(zq (by omega)).trans ((zq (by omega)).trans (zk ad.l))
    ·exact(zq (by omega)).trans (zk q1)
    ·exact zh (zh (zh (UR _ W2.drew) (by omega) _) (by omega) _) (by omega) _
    ·intro k b z h3;exact(zq h3).trans ((zq z).trans (zq b))
   ·exact⟨_,zc (za (hdr f2)) (i:=2) rfl,ah W2.drew _ _ _ ad t.pos (qV t) _ ap⟩
  ·have h:qV t=0:=by
    have b:(!decide (qV t=0))=false:=h;simpa using b
   refine⟨_,zc (za f.l) (i:=0) rfl,_,rfl,za f2,hlt f2,⟨by decide,by decide,rfl⟩,qN.enc t,zar (qN.len t) rfl,?_⟩;have bi:d.length+1<=40000:=by
    have:=ac.length_le;simp at this;omega
   refine qQ (E:=qN) (news:=[t]) (B:=W1.heap.size) Tryz.underlying255 zji rfl rfl rfl (ho.alloc _) rfl (qq qN t) (by simp;omega) (by show d.length+1<=_;omega) (by show(d.length+1)*32<=_;omega) ?_;intro p3 j W4 au be am bc;have bh:L<W2.heap.size:=hlt f.l;have a2:ResX L (W2.alloc (.cells (qN.enc t).toArray 260)) (.slice p d.length cap) 0 0:=⟨z6 _ f.l,z6 _ f.p,z6 _ f.e⟩;have af:ResX L W4 (.slice p d.length cap) 0 0:=a2.same fun k m=>am.block k (by omega);refine zo (v := .slice p3 (d++[t]).length j) zqh af.l rfl rfl rfl ?_;have al:ResX L (W4.setRow L (Value.slice p3 (d++[t]).length j).cells) (.slice p3 (d++[t]).length j) 0 0:=⟨zk af.l,(zq (by omega)).trans af.p,(zq (by omega)).trans af.e⟩;have aa:Below w.heap.size W2 (W4.setRow L (Value.slice p3 (d++[t]).length j).cells) :=
    zh (((UR _ W2).alloc (by omega) _).trans (am.mono (by omega))) (by omega) _
   refine UV ⟨r.trans aa,fun u hu=>?_,p3,j,al,au.same fun a ha=>?_⟩ ⟨aa.os,aa.tape,aa.output,aa.size,fun k m y=>?_,fun k m=>?_⟩
   ·rcases QH.1 hu with hu | hu
    ·exact aj u hu
    ·simp only[Kv] at hu;rw[hu];exact h
   ·refine zq ?_;rcases au.inv with⟨b,_⟩ | ⟨g',_,b,z,_⟩
    ·rw[b] at ha;cases ha
    ·rw[b] at ha;cases ha;dsimp only;omega
   ·have b:k≠L:=fun e=>y (.inl e);rw[zq b];refine(be.block k (by simp;omega) ?_).trans ?_
    ·intro e
     cases p with
     | none=>simp [Value.ownBlock] at e
     | some a =>
      simp only[Value.ownBlock,KS] at e;exact y (.inr (.inr (.inr ⟨a,_,_,f.l,e⟩)))
    ·show(W2.heap.push _)[k]?=_;rw[Array.getElem?_push,Gc (Nat.ne_of_lt m)]
   ·rcases FpX.row al m with b | b | b | ⟨a,ha,rfl⟩
    ·exact .inl (.inl b)
    ·exact .inl (.inr (.inl b))
    ·exact .inl (.inr (.inr (.inl b)))
    ·rcases bc a ha with b | b
     ·exact .inl (.inr (.inr (.inr ⟨a,_,_,b▸f.l,rfl⟩)))
     ·refine .inr ?_;rw[b];simp
 ·intro D W hD a9 hJ q;obtain⟨r,aj,p,cap,f,ho⟩:=hJ;refine⟨_,zc (za f.l) (i:=0) rfl,zo (v := .slice p (qz s).length cap) zqh f.l rfl rfl rfl ?_⟩;have q1:(W.setRow L (Value.slice p (qz s).length cap).cells).heap[L+1]?=some (.cells #[i64 0] 3 (0,0)):=(zq (by omega)).trans f.p;refine zo (v:=i64 0) k3 q1 rfl rfl rfl ?_;have q2:((W.setRow L (Value.slice p (qz s).length cap).cells).setRow (L+1) (i64 0).cells).heap[L+2]?=some (.cells #[i64 0] 33 (0,0)):=(zq (by omega)).trans ((zq (by omega)).trans f.e);refine zo (v:=i64 0) k33 q2 rfl rfl rfl ?_;obtain⟨S,hS⟩:=nm (((W.setRow L (Value.slice p (qz s).length cap).cells).setRow (L+1) (i64 0).cells).setRow (L+2) (i64 0).cells);have rS:ResX L S (.slice p (qz s).length cap) 0 0:=by
   rw[hS];exact⟨(zq (by omega)).trans ((zq (by omega)).trans (zk f.l)),(zq (by omega)).trans (zk q1),zk q2⟩
  have bS:Below w.heap.size W S:=by rw[hS];exact zh (zh (zh (UR _ W) (by omega) _) (by omega) _) (by omega) _
  have oS:∀k,k≠L->k≠L+1->k≠L+2->S.heap[k]?=W.heap[k]?:=fun k b z h3=>by rw[hS];exact(zq h3).trans ((zq z).trans (zq b))
  have dS:S.heap[D]?=some (.deferred (some [])):=(oS D (by omega) (by omega) (by omega)).trans q;rw[<- hS];refine⟨_,rfl,dS,?_⟩;have rP:ResX L (S.putObj D (.deferred none)) (.slice p (qz s).length cap) 0 0:=rS.same fun k m=>zj (by omega);refine⟨_,zc (za rP.l) (i:=0) rfl,_,zc (za rP.p) (i:=0) rfl,_,zc (za rP.e) (i:=0) rfl,p,cap,(qz s).length,0,0,rfl,fun _=>⟨rfl,rfl,?_⟩,fun h=>?_,qh (r.trans bS) (by omega) _⟩
  ·exact(ho.same fun a ha=>by
    have ag:a.block≠L/\a.block≠L+1/\a.block≠L+2/\a.block≠D:=by
     rcases ho.inv with⟨b,_⟩ | ⟨g',_,b,z,h3,_⟩
     ·rw[b] at ha;cases ha
     ·rw[b] at ha;cases ha;refine⟨by dsimp only;omega,by dsimp only;omega,by dsimp only;omega,fun e=>?_⟩;have e:g'=D:=e;rw[e,q] at h3;cases h3
    exact(zj ag.2.2.2).trans (oS _ ag.1 ag.2.1 ag.2.2.1)).row
  ·rw[az aj] at h;cases h
 ·rintro D ex d W hD a9 ac ⟨rfl,r,⟨t,ht,a1⟩,pl,er,f,ba⟩ q;refine⟨_,rfl,q,?_⟩;have rP:ResX L (W.putObj D (.deferred none)) (.slice none 0 0) pl er:=f.same fun k m=>zj (by omega);refine⟨_,zc (za rP.l) (i:=0) rfl,_,zc (za rP.p) (i:=0) rfl,_,zc (za rP.e) (i:=0) rfl,none,0,0,pl,er,rfl,fun h=>?_,fun _=>ba,qh r (by omega) _⟩;rw[ar ⟨t,ac.subset ht,a1⟩] at h;cases h
theorem zoz(s:List UInt8)(hs:s.length<=140737488351232)(w:Wd):CB 90 #[zJ s] w (.bool (zcX s)):=by
 refine zC 34 [zJ s] Tryz.func90 ?_;have a:zcX s=(zcE s&&znw (qz s) s):=by
  unfold zcX zcE;rw[Bool.and_assoc]
 refine cmo (ztk s hs w) ?_;rintro e V ⟨p,x,n,z,er,rfl,v,r,d⟩
 cases hk:zcE s with
 | false =>
  have g:=r hk;rw[a,hk,QZ];exact brN (by exact QX g) (brF (brF ⟨rfl,d⟩))
 | true =>
  obtain⟨rfl,rfl,m⟩:=v hk;rw[a,hk,Un];refine brT (biE (fun h=>?_) fun h=>?_)
  ·have h:(qz s).length=2:=by have h:((qz s).length:Int)=2:=dT h;omega
   match hx:qz s,h with
   | [t,u],_ =>
    rw[hx] at m;obtain⟨b,o,rfl,q,c⟩:=m.at (i:=0) (by simp);have c:=c 0 (by simp);refine⟨0,rfl,(by show 0<2;omega),_,zc c (i:=0) rfl,?_⟩;have k:decide ((t.kind.toNat:Int)=1)=decide (t.kind=1):=(by rw[Qw];exact qm (y:=1));refine biE (fun h=>?_) fun h=>?_
    ·have h:decide (t.kind=1)=true:=k.symm.trans h;exact⟨0,rfl,(by show 0<2;omega),_,zc c (i:=1) rfl,_,fun w=>qt _ _ t.text s w,rb (by unfold znw;simp only[h,Un]),d⟩
    ·have h:decide (t.kind=1)=false:=k.symm.trans h;exact⟨rb (by unfold znw;simp only[h,QZ]),d⟩
  ·have h:¬(qz s).length=2:=by have h:¬((qz s).length:Int)=2:=dF h;omega
   refine brF ⟨rb ?_,d⟩;have j:∀l:List Tok,¬l.length=2->false=znw l s:=fun l f=>by
    match l,f with
    | [],_=>rfl
    | [_],_=>rfl
    | [_,_],f=>exact Ge rfl f
    | _::_::_::_,_=>rfl
   exact j _ h
theorem zsH(s:List UInt8)(w:Wd):Calls PG 231 #[zJ s] w fun e w'=>e = .returned (.bool (zgf s))/\w=w':=by
 refine zC 22 [zJ s] Tryz.func231 ?_;refine⟨_,fun w=>qt _ _ s [116,101,115,116] w,?_⟩;refine biE (fun h=>?_) fun t=>?_
 ·refine brE h ?_;exact⟨rb (Qb.2 ⟨[116,101,115,116],by decide,h⟩).symm,rfl⟩
 refine⟨_,fun w=>qt _ _ s [105,110,105,116] w,?_⟩;refine biE (fun h=>?_) fun q=>?_
 ·refine brE h ?_;exact⟨rb (Qb.2 ⟨[105,110,105,116],by decide,h⟩).symm,rfl⟩
 refine⟨_,fun w=>qt _ _ s [116,104,114,101,97,100] w,?_⟩;refine biE (fun h=>?_) fun n=>?_
 ·refine brE h ?_;exact⟨rb (Qb.2 ⟨[116,104,114,101,97,100],by decide,h⟩).symm,rfl⟩
 refine⟨_,fun w=>qt _ _ s [115,111,109,101] w,?_⟩;refine biE (fun h=>?_) fun j=>?_
 ·refine brE h ?_;exact⟨rb (Qb.2 ⟨[115,111,109,101],by decide,h⟩).symm,rfl⟩
 refine⟨_,fun w=>qt _ _ s [110,111,110,101] w,?_⟩;refine biE (fun h=>?_) fun o=>?_
 ·refine brE h ?_;exact⟨rb (Qb.2 ⟨[110,111,110,101],by decide,h⟩).symm,rfl⟩
 refine⟨_,fun w=>qt _ _ s [97,108,108] w,?_⟩;refine biE (fun h=>?_) fun k=>?_
 ·refine brE h ?_;exact⟨rb (Qb.2 ⟨[97,108,108],by decide,h⟩).symm,rfl⟩
 refine⟨_,fun w=>qt _ _ s [97,99,113] w,?_⟩;refine biE (fun h=>?_) fun m=>?_
 ·refine brE h ?_;exact⟨rb (Qb.2 ⟨[97,99,113],by decide,h⟩).symm,rfl⟩
 refine⟨_,fun w=>qt _ _ s [114,101,108] w,?_⟩;refine biE (fun h=>?_) fun r=>?_
 ·refine brE h ?_;exact⟨rb (Qb.2 ⟨[114,101,108],by decide,h⟩).symm,rfl⟩
 refine⟨_,fun w=>qt _ _ s [115,119,97,112] w,?_⟩;refine biE (fun h=>?_) fun l=>?_
 ·refine brE h ?_;exact⟨rb (Qb.2 ⟨[115,119,97,112],by decide,h⟩).symm,rfl⟩
 refine⟨_,fun w=>qt _ _ s [102,101,116,99,104] w,?_⟩;refine biE (fun h=>?_) fun p=>?_
 ·refine brE h ?_;exact⟨rb (Qb.2 ⟨[102,101,116,99,104],by decide,h⟩).symm,rfl⟩
 refine⟨_,fun w=>qt _ _ s [99,97,115] w,?_⟩;refine biE (fun h=>?_) fun i=>?_
 ·refine brE h ?_;exact⟨rb (Qb.2 ⟨[99,97,115],by decide,h⟩).symm,rfl⟩
 refine⟨_,fun w=>qt _ _ s [102,101,110,99,101] w,?_⟩;refine biE (fun h=>?_) fun f=>?_
 ·refine brE h ?_;exact⟨rb (Qb.2 ⟨[102,101,110,99,101],by decide,h⟩).symm,rfl⟩
 refine⟨_,fun w=>qt _ _ s [108,111,97,100,115] w,?_⟩;refine biE (fun h=>?_) fun g=>?_
 ·refine brE h ?_;exact⟨rb (Qb.2 ⟨[108,111,97,100,115],by decide,h⟩).symm,rfl⟩
 refine⟨_,fun w=>qt _ _ s [115,116,111,114,101,115] w,?_⟩;refine biE (fun h=>?_) fun b=>?_
 ·refine brE h ?_;exact⟨rb (Qb.2 ⟨[115,116,111,114,101,115],by decide,h⟩).symm,rfl⟩
 refine⟨_,fun w=>qt _ _ s [115,107,105,112] w,?_⟩;refine biE (fun h=>?_) fun a=>?_
 ·refine brE h ?_;exact⟨rb (Qb.2 ⟨[115,107,105,112],by decide,h⟩).symm,rfl⟩
 refine⟨_,fun w=>qt _ _ s [105,102] w,?_⟩;refine biE (fun h=>?_) fun c=>?_
 ·refine brE h ?_;exact⟨rb (Qb.2 ⟨[105,102],by decide,h⟩).symm,rfl⟩
 refine⟨_,fun w=>qt _ _ s [116,114,117,101] w,?_⟩;refine biE (fun h=>?_) fun d=>?_
 ·exact⟨rb (Qb.2 ⟨[116,114,117,101],by decide,h⟩).symm,rfl⟩
 exact⟨rb (by unfold zgf zrq;simp only[List.any_cons,List.any_nil,t,q,n,j,o,k,m,r,l,p,i,f,g,b,a,c,d];rfl),rfl⟩
theorem zsE(s:List UInt8)(hs:s.length<=140737488351232)(w:Wd):Calls PG 171 #[zJ s] w fun e w'=>e = .returned (.bool (zaI s))/\w=w':=by
 refine qg 55 [zJ s] (.s .p (.c .p (.s .p (.c .p .p)))) Tryz.func171 ?_;refine⟨Unit,fun _=>⟨[(0,zJ s)],[]⟩,fun _ X=>(∃c r,s=c::r/\r.length+1<=16/\zY c=3/\zgf s=false)/\w=X,?_,?_⟩
 ·refine biE (fun h=>?_) fun h=>?_
  ·have h:(s.length:Int)<1:=dT h;have h0:s=[]:=Jd (by omega);subst h0;refine brT ?_;refine brT ?_;refine brT ?_;exact⟨rfl,rfl⟩
  have h:¬(s.length:Int)<1:=dF h;obtain⟨c,r,rfl⟩:∃c r,s=c::r:=by
   cases s with
   | nil=>simp at h
   | cons c r=>exact⟨c,r,rfl⟩
  have a:zaI (c::r)=(decide (r.length+1<=16)&&(decide (zY c=3)&&(!zgf (c::r)&&(r.all qi&&(!decide (c=114)||(decide (qy r=0)||decide (qy r<r.length))))))):=rfl;have ab:(((bs (c::r)).size:Nat):Int)=(r.length+1:Nat):=rfl;refine biE (fun q=>?_) fun q=>?_
  ·have q:(16:Int)<((r.length+1:Nat):Int):=dT q;refine brT ?_;refine brT ?_;exact⟨rb (by rw[a,QX (by omega)];rfl),rfl⟩
  have q:¬(16:Int)<((r.length+1:Nat):Int):=dF q;refine⟨0,rfl,Nat.succ_pos _,c,rfl,?_⟩;refine cmo (jw c _) ?_;rintro e _ ⟨rfl,rfl⟩;refine biE (fun g=>?_) fun g=>?_
  ·have g:¬zY c=3:=by
    have u:(!decide ((zY c:Int)=3))=true:=g;simp at u;omega
   refine brT ?_;exact⟨rb (by rw[a,QX g];simp),rfl⟩
  have g:zY c=3:=by
   have u:(!decide ((zY c:Int)=3))=false:=g;simp at u;omega
  refine cmo (zsH (c::r) _) ?_;rintro e _ ⟨rfl,rfl⟩;refine biE (fun m=>?_) fun m=>?_
  ·have m:zgf (c::r)=true:=m;exact⟨rb (by rw[a,m];simp),rfl⟩
  ·exact⟨(),(cvE rfl rfl),⟨c,r,rfl,by omega,g,m⟩,rfl⟩
 rintro _ _ ⟨⟨c,r,rfl,u,g,m⟩,rfl⟩;have a:zaI (c::r)=(r.all qi&&(!decide (c=114)||(decide (qy r=0)||decide (qy r<r.length)))):=by
  show(decide (r.length+1<=16)&&(decide (zY c=3)&&(!zgf (c::r)&&(r.all qi&&(!decide (c=114)||(decide (qy r=0)||decide (qy r<r.length)))))))=_;rw[Uh u,Uh g,m];rfl
 rw[a];refine⟨Unit,fun _=>⟨[(0,zJ (c::r)),(3,i64 (qy r:Nat))],[]⟩,fun _ X=>r.all qi=true/\w=X,?_,?_⟩
 ·refine⟨Nat,fun k=>⟨[(0,zJ (c::r)),(3,i64 (qy (r.take k):Nat)),(4,i64 (k+1:Nat))],[]⟩,fun k X=>k<=r.length/\(∀d∈r.take k,qi d=true)/\qy (r.take k)<=k/\w=X,fun k=>r.length-k,0,(cvE rfl rfl),⟨UP _,by simp,UN _,rfl⟩,?_⟩;rintro k _ ⟨hk,hw,aa,rfl⟩;dsimp only at hk hw aa ⊢;refine biE (fun t=>?_) fun t=>?_
  ·have t:((k+1:Nat):Int)<((r.length+1:Nat):Int):=dT t;have x:k<r.length:=by omega
   have o:(bs (c::r)).data.toList[k+1]?=some r[k]:=by
    show(c::r)[k+1]?=_;rw[Jr,gE x]
   refine⟨k+1,rfl,(by show k+1<r.length+1;omega),r[k],o,?_⟩;refine cmo (zjl _ _) ?_;rintro e _ ⟨rfl,rfl⟩;refine biE (fun f=>?_) fun f=>?_
   ·have f:(!qi r[k])=true:=f;have f:qi r[k]=false:=(by simpa using f);have:r.all qi=false:=by
     rw[KF];exact⟨r[k],gM _,by rw[f];simp⟩
    exact⟨rb (by rw[this];rfl),rfl⟩
   have f:(!qi r[k])=false:=f;have f:qi r[k]=true:=by simpa using f
   have z:∀d∈r.take (k+1),qi d=true:=by
    rw[tsg x];intro d i;rcases QH.1 i with i | i
    ·exact hw d i
    ·simp only[Kv] at i;rw[i];exact f
   have l:qy (r.take (k+1))=qy (r.take k)+(if zaQ r[k]=true then 1 else 0):=by
    unfold qy;rw[tsg x,Kq,lap];congr 1;by_cases h:zaQ r[k]=true
    ·rw[Gd h,List.filter_cons_of_pos h];rfl
    ·rw[Gc h,List.filter_cons_of_neg h];rfl
   refine⟨k+1,rfl,(by show k+1<r.length+1;omega),r[k],o,?_⟩;refine cmo (jw _ _) ?_;rintro e _ ⟨rfl,rfl⟩;have i:decide ((zY r[k]:Int)=4)=zaQ r[k]:=zbs (b:=4);refine biE (fun n=>?_) fun n=>?_
   ·have n:zaQ r[k]=true:=i.symm.trans n;rw[Gd n] at l;refine⟨(qy (r.take (k+1)):Int),(zg (by omega)).trans (by omega),?_⟩;refine⟨((k+1+1:Nat):Int),(zg (by omega)).trans (by omega),?_⟩;exact⟨k+1,(cvE rfl rfl),⟨x,z,by omega,rfl⟩,zdc (by omega)⟩
   ·have n:¬zaQ r[k]=true:=(by rw[KZ];exact i.symm.trans n);rw[Gc n] at l;refine⟨((k+1+1:Nat):Int),(zg (by omega)).trans (by omega),?_⟩;exact⟨k+1,⟨.cons rfl (.cons (by rw[l];rfl) (.cons rfl .nil)),rfl⟩,⟨x,z,by omega,rfl⟩,zdc (by omega)⟩
  ·have t:¬((k+1:Nat):Int)<((r.length+1:Nat):Int):=dF t;obtain rfl:k=r.length:=by omega
   rw[Qn] at hw;exact⟨(),⟨.cons rfl (.cons (by rw[Qn];rfl) .nil),rfl⟩,Qa.2 hw,rfl⟩
 rintro _ _ ⟨v,rfl⟩;rw[v,Un];have ac:qy r<=r.length:=JH _ _;refine⟨0,rfl,Nat.succ_pos _,c,rfl,?_⟩;have cd:decide ((c.toNat:Int)=114)=decide (c=114):=by rw[Qw];exact qm (y:=114)
 refine biE (fun h=>?_) fun h=>?_
 ·have h:(!decide (c=114))=true:=by
   have h:(!decide ((c.toNat:Int)=114))=true:=h
   rwa [cd] at h
  refine brT ?_;exact⟨rb (by rw[h];rfl),rfl⟩
 have h:(!decide (c=114))=false:=by
  have h:(!decide ((c.toNat:Int)=114))=false:=h
  rwa [cd] at h
 rw[h,Uk];refine biE (fun j=>?_) fun j=>?_
 ·have j:qy r=0:=by have j:(qy r:Int)=0:=dT j;omega
  exact⟨rb (by rw[Uh j];rfl),rfl⟩
 have j:¬qy r=0:=by have j:¬(qy r:Int)=0:=dF j;omega
 refine⟨(r.length:Nat),(zg (by show -9223372036854775808<=((r.length+1:Nat):Int)-1/\((r.length+1:Nat):Int)-1<=9223372036854775807;omega)).trans (by show((r.length+1:Nat):Int)-1=_;omega),?_⟩;exact⟨rb (by rw[QX j,Uk,Qw];omega),rfl⟩
theorem zre(p:OA)(cap:Nat)(l:List (List UInt8))(s:List UInt8)(w:Wd)(hl:SlR zeD w p l)(hn:l.length<=140737488351232) :
  Calls PG 233 #[.slice p l.length cap,zJ s] w fun e w'=>∃n:Int,e = .returned (i64 n)/\decide (0<=n)=l.any (fun q=>decide (q=s))/\w=w':=by
 refine zC 19 [.slice p l.length cap,zJ s] Tryz.func233 ?_;refine⟨Nat,fun k=>⟨[(0,.slice p l.length cap),(1,zJ s),(7,i64 l.length),(8,i64 (k:Nat))],[]⟩,fun k X=>k<=l.length/\(∀q∈l.take k,¬q=s)/\w=X,fun k=>l.length-k,0,(cvE rfl rfl),⟨UP _,by simp,rfl⟩,?_⟩;rintro k _ ⟨hk,hno,rfl⟩;dsimp only at hk hno ⊢;refine biE (fun hc=>?_) fun hc=>?_
 ·have hc:(k:Int)<(l.length:Int):=dT hc;have hkl:k<l.length:=by omega
  obtain⟨b,o,rfl,hb,hat⟩:=hl.at hkl;refine⟨k,rfl,hkl,?_⟩;refine⟨_,zc (hat k hkl) (i:=0) rfl,?_⟩;refine⟨_,fun w=>qt _ _ s l[k] w,?_⟩;refine biE (fun h=>?_) fun h=>?_
  ·have h:s=l[k]:=dT h;refine⟨k,rfl,?_,rfl⟩;rw[Uh (by omega)];symm;rw[Qb];exact⟨l[k],gM _,Uh h.symm⟩
  ·have h:¬s=l[k]:=dF h;refine⟨(k+1:Nat),(zg (by omega)).trans (by omega),?_⟩;refine⟨k+1,(cvE rfl rfl),⟨hkl,?_,rfl⟩,zdc (by omega)⟩;rw[tsg hkl];intro q hq;rcases QH.1 hq with hq | hq
   ·exact hno q hq
   ·simp only[Kv] at hq;rw[hq];exact fun e=>h e.symm
 ·have hc:¬(k:Int)<(l.length:Int):=dF hc;obtain rfl:k=l.length:=by omega
  rw[Qn] at hno;refine⟨-1,rfl,?_,rfl⟩;symm;show _=false;rw[KG];exact fun q hq=>by simpa using hno q hq
theorem zk7(p:OA)(cap:Nat)(l:List (List UInt8))(s:List UInt8)(w:Wd)(hl:SlR zeD w p l)(hn:l.length<=140737488351232) :
  Calls PG 172 #[.slice p l.length cap,zJ s] w fun e w'=>e = .returned (.bool (l.any fun q=>decide (q=s)))/\w=w':=by
 refine zC 9 [.slice p l.length cap,zJ s] Tryz.func172 ?_;refine cmo (zre p cap l s w hl hn) ?_;rintro e _ ⟨n,rfl,h,rfl⟩;exact⟨rb h,rfl⟩
def GlobC (w:Wd):Prop:=zF w ⟨3,0,none⟩ (zdZ.map u8)
theorem GlobC.below{w w2:Wd}(h:GlobC w)(hb:Bw w w2):GlobC w2:=zt hb h
def spC (x:InsD) (locs after:Nat):List Value:=[u8 x.op,u8 x.dst,u8 x.loc,.bool x.ar,u8 x.an,.bool x.br,u8 x.bn,u8 x.fn,u8 x.mode,u8 x.skip,i64 locs,i64 after]
theorem u8d(x k:UInt8):decide ((x.toNat:Int)=(k.toNat:Int))=decide (x=k):=by rw[Qw];exact qm
theorem zrD(a b:UInt8):IntKind.u8.wrap ((BitVec.ofInt IntKind.u8.bits (a.toNat:Int)&&&BitVec.ofInt IntKind.u8.bits (b.toNat:Int)).toNat:Int)=((a&&&b).toNat:Int):=by
 have h:∀x:UInt8,BitVec.ofInt 8 (x.toNat:Int)=x.toBitVec:=fun x=>by
  apply BitVec.eq_of_toNat_eq;rw[Km];have:=x.toNat_lt;show((x.toNat:Int)%(2^8:Nat)).toNat=x.toNat;omega
 show IntKind.u8.wrap ((BitVec.ofInt 8 (a.toNat:Int)&&&BitVec.ofInt 8 (b.toNat:Int)).toNat:Int)=_;rw[h,h];have e:(a.toBitVec&&&b.toBitVec).toNat=(a&&&b).toNat:=rfl;rw[e];have:=(a&&&b).toNat_lt;exact zcQ (by omega)
theorem zea{g locs after:Nat}{x:InsD}{w:Wd}(bit:UInt8)(h:zF w ⟨g,0,none⟩ (spC x locs after))(hop:x.op.toNat<=8)(hG:GlobC w) :
  Calls PG 239 #[At0 g,u8 bit] w fun e w'=>e = .returned (.bool (jc x.op bit))/\w=w':=by
 refine zC 15 [At0 g,u8 bit] Tryz.func239 ?_;refine⟨_,zc h (i:=0) rfl,x.op.toNat,rfl,(by show x.op.toNat<9;omega),?_⟩;have b:(zdZ.map u8)[x.op.toNat]?=some (u8 (zdZ.getD x.op.toNat 0)):=by
  have a:x.op.toNat<zdZ.length:=by show _<9;omega
  rw[KM,gE a,gDe,gE a];rfl
 refine⟨u8 (zdZ.getD x.op.toNat 0),by rw[UO];exact zc hG b,?_⟩;exact⟨((zdZ.getD x.op.toNat 0&&&bit).toNat:Int),zrD _ _,rb (by unfold jc;rw[<- u8d];rfl),rfl⟩
theorem zgF(r:Bool)(n:UInt8)(w:Wd):CB 241 #[.agg #[.bool r,u8 n]] w (.bool (zk4 r n)):=by
 refine zC 11 [.agg #[.bool r,u8 n]] Tryz.func241 ?_;have a:Bw w (w.alloc (.cells #[.bool r,u8 n] 66)):=zba _ _;have b:=za (zw w (.cells #[.bool r,u8 n] 66));refine⟨_,zc b (i:=0) rfl,?_⟩
 cases r with
 | false =>
  exact brT ⟨rfl,a⟩
 | true =>
  refine brF ⟨_,zc b (i:=1) rfl,rb ?_,a⟩;show decide ((n.toNat:Int)<8)=decide (n.toNat<8);rw[Qw];omega
theorem zi9{g locs after:Nat}{x:InsD}{w:Wd}(h:zF w ⟨g,0,none⟩ (spC x locs after)) :
  Calls PG 242 #[At0 g] w fun e w'=>e = .returned (.bool (zd1 x))/\w=w':=by
 refine zC 64 [At0 g] Tryz.func242 ?_;refine⟨_,zc h (i:=0) rfl,biE (fun b=>?_) fun b=>?_⟩
 ·have b:x.op=1:=dT ((u8d x.op 1).symm.trans b);have e:zd1 x=(decide (x.mode=0)||decide (x.mode=1)):=by unfold zd1;rw[Gd b]
  rw[e,<- u8d,<- u8d];refine⟨_,zc h (i:=8) rfl,biE (fun a=>?_) fun a=>?_⟩
  ·exact⟨rb (by have a:decide ((x.mode.toNat:Int)=((0:UInt8).toNat:Int))=true:=a;rw[a];rfl),rfl⟩
  ·exact⟨_,zc h (i:=8) rfl,rb (by have a:decide ((x.mode.toNat:Int)=((0:UInt8).toNat:Int))=false:=a;rw[a];rfl),rfl⟩
 have b:¬x.op=1:=dF ((u8d x.op 1).symm.trans b);refine biE (fun a=>?_) fun a=>?_
 ·have a:x.op=2:=dT ((u8d x.op 2).symm.trans a);have e:zd1 x=(decide (x.mode=0)||decide (x.mode=2)):=by unfold zd1;rw[Gc b,Gd a]
  rw[e,<- u8d,<- u8d];refine⟨_,zc h (i:=8) rfl,biE (fun a=>?_) fun a=>?_⟩
  ·exact⟨rb (by have a:decide ((x.mode.toNat:Int)=((0:UInt8).toNat:Int))=true:=a;rw[a];rfl),rfl⟩
  ·exact⟨_,zc h (i:=8) rfl,rb (by have a:decide ((x.mode.toNat:Int)=((0:UInt8).toNat:Int))=false:=a;rw[a];rfl),rfl⟩
 have a:¬x.op=2:=dF ((u8d x.op 2).symm.trans a);refine biE (fun d=>?_) fun d=>?_
 ·have d:x.op=7:=dT ((u8d x.op 7).symm.trans d);have e:zd1 x=(decide (x.mode=3)||(decide (x.mode=4)||decide (x.mode=5))):=by unfold zd1;rw[Gc b,Gc a,Gd d]
  rw[e,<- u8d,<- u8d,<- u8d];refine⟨_,zc h (i:=8) rfl,biE (fun c=>?_) fun c=>?_⟩
  ·exact brT ⟨rb (by have c:decide ((x.mode.toNat:Int)=((3:UInt8).toNat:Int))=true:=c;rw[c];rfl),rfl⟩
  have c:decide ((x.mode.toNat:Int)=((3:UInt8).toNat:Int))=false:=c;refine⟨_,zc h (i:=8) rfl,biE (fun f=>?_) fun f=>?_⟩
  ·exact⟨rb (by have f:decide ((x.mode.toNat:Int)=((4:UInt8).toNat:Int))=true:=f;rw[c,f];rfl),rfl⟩
  have f:decide ((x.mode.toNat:Int)=((4:UInt8).toNat:Int))=false:=f;exact⟨_,zc h (i:=8) rfl,rb (by rw[c,f];rfl),rfl⟩
 have d:¬x.op=7:=dF ((u8d x.op 7).symm.trans d);exact⟨rb (by unfold zd1;rw[Gc b,Gc a,Gc d]),rfl⟩
theorem zmQ{g locs after:Nat}{x:InsD}{w:Wd}(h:zF w ⟨g,0,none⟩ (spC x locs after)) :
  Calls PG 243 #[At0 g] w fun e w'=>e = .returned (.bool (fnL x))/\w=w':=by
 refine zC 56 [At0 g] Tryz.func243 ?_;refine⟨_,zc h (i:=0) rfl,biE (fun c=>?_) fun c=>?_⟩
 ·have c:x.op=3:=dT ((u8d x.op 3).symm.trans c);have e:fnL x=(decide (x.fn=1)||(decide (x.fn=2)||decide (x.fn=3))):=by unfold fnL;rw[Gd c]
  rw[e,<- u8d,<- u8d,<- u8d];refine⟨_,zc h (i:=7) rfl,biE (fun a=>?_) fun a=>?_⟩
  ·exact brT ⟨rb (by have a:decide ((x.fn.toNat:Int)=((1:UInt8).toNat:Int))=true:=a;rw[a];rfl),rfl⟩
  have a:decide ((x.fn.toNat:Int)=((1:UInt8).toNat:Int))=false:=a;refine⟨_,zc h (i:=7) rfl,biE (fun b=>?_) fun b=>?_⟩
  ·exact⟨rb (by have b:decide ((x.fn.toNat:Int)=((2:UInt8).toNat:Int))=true:=b;rw[a,b];rfl),rfl⟩
  have b:decide ((x.fn.toNat:Int)=((2:UInt8).toNat:Int))=false:=b;exact⟨_,zc h (i:=7) rfl,rb (by rw[a,b];rfl),rfl⟩
 have c:¬x.op=3:=dF ((u8d x.op 3).symm.trans c);refine biE (fun d=>?_) fun d=>?_
 ·have d:x.op=8:=dT ((u8d x.op 8).symm.trans d);have e:fnL x=(decide (x.fn=4)||(decide (x.fn=5)||decide (x.fn=6))):=by unfold fnL;rw[Gc c,Gd d]
  rw[e,<- u8d,<- u8d,<- u8d];refine⟨_,zc h (i:=7) rfl,biE (fun a=>?_) fun a=>?_⟩
  ·exact brT ⟨rb (by have a:decide ((x.fn.toNat:Int)=((4:UInt8).toNat:Int))=true:=a;rw[a];rfl),rfl⟩
  have a:decide ((x.fn.toNat:Int)=((4:UInt8).toNat:Int))=false:=a;refine⟨_,zc h (i:=7) rfl,biE (fun b=>?_) fun b=>?_⟩
  ·exact⟨rb (by have b:decide ((x.fn.toNat:Int)=((5:UInt8).toNat:Int))=true:=b;rw[a,b];rfl),rfl⟩
  have b:decide ((x.fn.toNat:Int)=((5:UInt8).toNat:Int))=false:=b;exact⟨_,zc h (i:=7) rfl,rb (by rw[a,b];rfl),rfl⟩
 have d:¬x.op=8:=dF ((u8d x.op 8).symm.trans d);exact⟨rb (by unfold fnL;rw[Gc c,Gc d]),rfl⟩
set_option maxRecDepth 4000
def zpw:InsD:=⟨0,0,0,false,0,false,0,0,0,0⟩
def nd0 (x:InsD):InsD:={ zpw with op:=x.op }
def nd1 (x:InsD):InsD:={ nd0 x with dst:=if jc x.op 1 then x.dst else 0 }
def nd2 (x:InsD):InsD:={ nd1 x with loc:=if jc x.op 2 then x.loc else 0 }
def nd3 (x:InsD):InsD:={ nd2 x with ar:=jc x.op 4&&x.ar,an:=if jc x.op 4 then x.an else 0 }
def nd4 (x:InsD):InsD:={ nd3 x with br:=jc x.op 8&&x.br,bn:=if jc x.op 8 then x.bn else 0 }
def nd5 (x:InsD):InsD:={ nd4 x with fn:=if jc x.op 16 then x.fn else 0 }
def nd6 (x:InsD):InsD:={ nd5 x with mode:=if jc x.op 32 then x.mode else 0 }
def nd7 (x:InsD):InsD:={ nd6 x with skip:=if jc x.op 64 then x.skip else 0 }
theorem zoh{g locs after:Nat}{x:InsD}{w:Wd}(h:zF w ⟨g,0,none⟩ (spC x locs after))(hg:g<w.heap.size)(hop:x.op.toNat<=8)(hG:GlobC w) :
  CB 236 #[At0 g] w (.agg (zS.enc (zfo x)).toArray):=by
 refine qg 67 [At0 g] (.s .p (.c .p (.c .p (.c .p (.c .p (.c .p (.c .p (.c .p (.c .p .p))))))))) Tryz.func236 ?_;obtain⟨r,hr⟩:=nm (w.heap.size);obtain⟨W0,ab⟩:=nm (w.alloc (.cells (zS.enc zpw).toArray 68));have ac:Bw w W0:=by rw[ab];exact(zba _ _)
 have f0:W0.heap[r]?=some (.cells (zS.enc zpw).toArray 68 (0,0)):=by rw[ab,hr];exact zw w _
 have s0:W0.heap.size=r+1:=by rw[ab,wz,hr]
 let Good:InsD->Wd->Prop:=fun y X=>Bw w X/\X.heap[r]?=some (.cells (zS.enc zpw).toArray 68 (0,0))/\X.heap[r+1]?=some (.cells (zS.enc y).toArray 68 (0,0))
 have j:∀y X,Good y X->zF X ⟨g,0,none⟩ (spC x locs after)/\GlobC X/\g<X.heap.size:=fun y X ⟨hb,_,_⟩=>⟨q5 hb hg h,hG.below hb,by have:=hb.size;omega⟩;have f:∀y z X Y,Good y X->X.grownBy Y (some (r+1))->Y.heap[r+1]?=some (.cells (zS.enc z).toArray 68 (0,0))->Good z Y:=fun y z X Y ⟨hb,h1,h2⟩ ad h3 =>
  ⟨hb.grown ad hb.size (fun k e=>by simp only[KS] at e;omega),(ad.block _ (hlt h1) (fun e=>by simp only[KS] at e;omega)).trans h1,h3⟩
 have aa:∀Y,Bw W0 Y->Y.heap[W0.heap.size]?=some (.cells (Value.agg (zS.enc (nd0 x)).toArray).cells 68 (0,0))->Good (nd0 x) Y:=fun Y b fY =>
  ⟨(zst ac b),zb b f0,by rw[<- s0];exact fY⟩
 have h0:zF W0 ⟨g,0,none⟩ (spC x locs after):=q5 ac hg h;have p2:some (Value.pointer (some ⟨w.heap.size,0,none⟩))=some (At0 r):=by rw[hr]
 have p3:some (Value.pointer (some ⟨W0.heap.size,0,none⟩))=some (At0 (r+1)):=by rw[s0]
 refine⟨Unit,fun _=>⟨[(0,At0 g),(2,At0 r),(3,At0 (r+1))],[]⟩,fun _ X=>Good (nd0 x) X,?_,?_⟩
 ·subst ab;exact⟨_,zc h0 (i:=0) rfl,zS.enc (nd0 x),rfl,zr (v := .agg (zS.enc (nd0 x)).toArray) k68 rfl rfl rfl fun Y ae fY sY=>⟨(),⟨.cons rfl (.cons p2 (.cons p3 .nil)),rfl⟩,aa Y ae fY⟩⟩
 clear aa h0 f0 ac p2 p3 s0;rintro _ Y b;refine⟨Unit,fun _=>⟨[(0,At0 g),(2,At0 r),(3,At0 (r+1))],[]⟩,fun _ X=>Good (nd1 x) X,?_,?_⟩
 ·obtain⟨l,d,q⟩:=j _ Y b;refine cmo (zea 1 l hop d) ?_;rintro e _ ⟨rfl,rfl⟩;refine biE (fun a=>?_) fun a=>?_
  ·have a:jc x.op 1=true:=a;have e:nd1 x={ nd0 x with dst:=x.dst }:=by unfold nd1;rw[Gd a]
   exact⟨_,zc l (i:=1) rfl,j9 k5 rfl (b.2.2) (o:=1) (by show 1<10;omega) (v:=u8 x.dst) rfl rfl fun Z u t sZ=>⟨(),(cvE rfl rfl),f _ _ Y Z b t (by rw[e];exact u)⟩⟩
  ·have a:jc x.op 1=false:=a;have e:nd1 x=nd0 x:=by unfold nd1;rw[Gc (by rw[a];decide)];rfl
   exact⟨(),(cvE rfl rfl),by rw[e];exact b⟩
 clear b Y;rintro _ Y b;refine⟨Unit,fun _=>⟨[(0,At0 g),(2,At0 r),(3,At0 (r+1))],[]⟩,fun _ X=>Good (nd2 x) X,?_,?_⟩
 ·obtain⟨l,d,q⟩:=j _ Y b;refine cmo (zea 2 l hop d) ?_;rintro e _ ⟨rfl,rfl⟩;refine biE (fun a=>?_) fun a=>?_
  ·have a:jc x.op 2=true:=a;have e:nd2 x={ nd1 x with loc:=x.loc }:=by unfold nd2;rw[Gd a]
   exact⟨_,zc l (i:=2) rfl,j9 k5 rfl (b.2.2) (o:=2) (by show 2<10;omega) (v:=u8 x.loc) rfl rfl fun Z u t sZ=>⟨(),(cvE rfl rfl),f _ _ Y Z b t (by rw[e];exact u)⟩⟩
  ·have a:jc x.op 2=false:=a;have e:nd2 x=nd1 x:=by unfold nd2;rw[Gc (by rw[a];decide)];rfl
   exact⟨(),(cvE rfl rfl),by rw[e];exact b⟩
 clear b Y;rintro _ Y b;refine⟨Unit,fun _=>⟨[(0,At0 g),(2,At0 r),(3,At0 (r+1))],[]⟩,fun _ X=>Good (nd3 x) X,?_,?_⟩
 ·obtain⟨l,d,q⟩:=j _ Y b;refine cmo (zea 4 l hop d) ?_;rintro e _ ⟨rfl,rfl⟩;refine biE (fun a=>?_) fun a=>?_
  ·have a:jc x.op 4=true:=a;have e:nd3 x={ nd2 x with ar:=x.ar,an:=x.an }:=by unfold nd3;rw[a,Un,Gd rfl]
   exact⟨[.bool x.ar,u8 x.an],rfl,zI (n:=3) (m:=2) l,q,jp k66 b.2.2 (o:=3) (v := .agg #[.bool x.ar,u8 x.an]) rfl (by show 3+2<=10;omega) rfl fun Z u t sZ=>⟨(),(cvE rfl rfl),f _ _ Y Z b t (by rw[e];exact u)⟩⟩
  ·have a:jc x.op 4=false:=a;have e:nd3 x=nd2 x:=by unfold nd3;rw[a,QZ,Gc (by decide)];rfl
   exact⟨(),(cvE rfl rfl),by rw[e];exact b⟩
 clear b Y;rintro _ Y b;refine⟨Unit,fun _=>⟨[(0,At0 g),(2,At0 r),(3,At0 (r+1))],[]⟩,fun _ X=>Good (nd4 x) X,?_,?_⟩
 ·obtain⟨l,d,q⟩:=j _ Y b;refine cmo (zea 8 l hop d) ?_;rintro e _ ⟨rfl,rfl⟩;refine biE (fun a=>?_) fun a=>?_
  ·have a:jc x.op 8=true:=a;have e:nd4 x={ nd3 x with br:=x.br,bn:=x.bn }:=by unfold nd4;rw[a,Un,Gd rfl]
   exact⟨[.bool x.br,u8 x.bn],rfl,zI (n:=5) (m:=2) l,q,jp k66 b.2.2 (o:=5) (v := .agg #[.bool x.br,u8 x.bn]) rfl (by show 5+2<=10;omega) rfl fun Z u t sZ=>⟨(),(cvE rfl rfl),f _ _ Y Z b t (by rw[e];exact u)⟩⟩
  ·have a:jc x.op 8=false:=a;have e:nd4 x=nd3 x:=by unfold nd4;rw[a,QZ,Gc (by decide)];rfl
   exact⟨(),(cvE rfl rfl),by rw[e];exact b⟩
 clear b Y;rintro _ Y b;refine⟨Unit,fun _=>⟨[(0,At0 g),(2,At0 r),(3,At0 (r+1))],[]⟩,fun _ X=>Good (nd5 x) X,?_,?_⟩
 ·obtain⟨l,d,q⟩:=j _ Y b;refine cmo (zea 16 l hop d) ?_;rintro e _ ⟨rfl,rfl⟩;refine biE (fun a=>?_) fun a=>?_
  ·have a:jc x.op 16=true:=a;have e:nd5 x={ nd4 x with fn:=x.fn }:=by unfold nd5;rw[Gd a]
   exact⟨_,zc l (i:=7) rfl,j9 k5 rfl (b.2.2) (o:=7) (by show 7<10;omega) (v:=u8 x.fn) rfl rfl fun Z u t sZ=>⟨(),(cvE rfl rfl),f _ _ Y Z b t (by rw[e];exact u)⟩⟩
  ·have a:jc x.op 16=false:=a;have e:nd5 x=nd4 x:=by unfold nd5;rw[Gc (by rw[a];decide)];rfl
   exact⟨(),(cvE rfl rfl),by rw[e];exact b⟩
 clear b Y;rintro _ Y b;refine⟨Unit,fun _=>⟨[(0,At0 g),(2,At0 r),(3,At0 (r+1))],[]⟩,fun _ X=>Good (nd6 x) X,?_,?_⟩
 ·obtain⟨l,d,q⟩:=j _ Y b;refine cmo (zea 32 l hop d) ?_;rintro e _ ⟨rfl,rfl⟩;refine biE (fun a=>?_) fun a=>?_
  ·have a:jc x.op 32=true:=a;have e:nd6 x={ nd5 x with mode:=x.mode }:=by unfold nd6;rw[Gd a]
   exact⟨_,zc l (i:=8) rfl,j9 k5 rfl (b.2.2) (o:=8) (by show 8<10;omega) (v:=u8 x.mode) rfl rfl fun Z u t sZ=>⟨(),(cvE rfl rfl),f _ _ Y Z b t (by rw[e];exact u)⟩⟩
  ·have a:jc x.op 32=false:=a;have e:nd6 x=nd5 x:=by unfold nd6;rw[Gc (by rw[a];decide)];rfl
   exact⟨(),(cvE rfl rfl),by rw[e];exact b⟩
 clear b Y;rintro _ Y b;refine⟨Unit,fun _=>⟨[(0,At0 g),(2,At0 r),(3,At0 (r+1))],[]⟩,fun _ X=>Good (nd7 x) X,?_,?_⟩
 ·obtain⟨l,d,q⟩:=j _ Y b;refine cmo (zea 64 l hop d) ?_;rintro e _ ⟨rfl,rfl⟩;refine biE (fun a=>?_) fun a=>?_
  ·have a:jc x.op 64=true:=a;have e:nd7 x={ nd6 x with skip:=x.skip }:=by unfold nd7;rw[Gd a]
   exact⟨_,zc l (i:=9) rfl,j9 k5 rfl (b.2.2) (o:=9) (by show 9<10;omega) (v:=u8 x.skip) rfl rfl fun Z u t sZ=>⟨(),(cvE rfl rfl),f _ _ Y Z b t (by rw[e];exact u)⟩⟩
  ·have a:jc x.op 64=false:=a;have e:nd7 x=nd6 x:=by unfold nd7;rw[Gc (by rw[a];decide)];rfl
   exact⟨(),(cvE rfl rfl),by rw[e];exact b⟩
 clear b Y;rintro _ Y b;exact⟨_,rfl,za b.2.2,hlt b.2.2,zo (v := .agg (zS.enc (nd7 x)).toArray) k68 b.2.1 rfl rfl rfl ⟨_,rfl,za (zk b.2.1),rfl,zh b.1 (by omega) _⟩⟩
theorem ztu:∃G,TyEq PG 66 true 2 2 G/\∀r n,G [.bool r,u8 n]:=by
 refine⟨_,.struct (uf Tryz.underlying66).1 (by kernel_rfl) (fun w=>Tryz.isAgg66 w) (qr (by kernel_rfl) (by kernel_rfl)).1 (by kernel_rfl)
  (by rw[(uf Tryz.underlying66).2];exact .cons (by decide) rfl zsW (.cons (by decide) rfl tU8 .nil)),fun r n=>?_⟩
 exact⟨⟨_,rfl⟩,⟨_,rfl⟩,trivial⟩
theorem zts:∃G,TyEq PG 68 true 10 3 G/\∀x,G (zS.enc x):=by
 obtain⟨G,b,a⟩:=ztu;refine⟨_,.struct (uf Tryz.underlying68).1 (by kernel_rfl) (fun w=>Tryz.isAgg68 w) (qr (by kernel_rfl) (by kernel_rfl)).1 (by kernel_rfl)
  (by rw[(uf Tryz.underlying68).2];exact .cons (by decide) rfl (tU8.up 1) (.cons (by decide) rfl (tU8.up 1) (.cons (by decide) rfl (tU8.up 1) (.cons (by decide) rfl b (.cons (by decide) rfl b (.cons (by decide) rfl (tU8.up 1) (.cons (by decide) rfl (tU8.up 1) (.cons (by decide) rfl (tU8.up 1) .nil)))))))),fun x=>?_⟩
 exact⟨⟨_,rfl⟩,⟨_,rfl⟩,⟨_,rfl⟩,a _ _,a _ _,⟨_,rfl⟩,⟨_,rfl⟩,⟨_,rfl⟩,trivial⟩
theorem zbk{a b:UInt8}(h:u8 a=u8 b):a=b:=by
 unfold u8 at h;simp only[Value.int.injEq,true_and] at h;exact qm.1 h
theorem zql{a b:InsD}:zS.enc a=zS.enc b↔a=b:=by
 constructor
 ·intro h;obtain⟨a0,a1,n,t,a4,s,a6,p,a8,r⟩:=a;obtain⟨b0,o,z,m,b4,q,u,b7,y,v⟩:=b;simp only[zS,QB,UX,Value.bool.injEq] at h;obtain⟨k,j,d,rfl,i,rfl,f,c,l,e⟩:=h;rw[zbk k,zbk j,zbk d,zbk i,zbk f,zbk c,zbk l,zbk e]
 ·exact fun h=>by rw[h]
theorem zqH(x y:Operand)(a b:InsD)(w:Wd):(do eqGuard .eql 68 x y (.agg (zS.enc a).toArray) (.agg (zS.enc b).toArray);binOp .eql 68 (.agg (zS.enc a).toArray) (.agg (zS.enc b).toArray)).run PG w = .ok (.bool (decide (a=b))) w:=by
 obtain⟨G,h,c⟩:=zts;rw[zih h 9997 rfl (by kernel_rfl) rfl rfl (c a) (c b) x y w,zbU zql]
structure SpV (X:Wd) (g bx:Nat) (x:InsD) (locs after:Nat):Prop where
 c:X.heap[g]?=some (.cells (spC x locs after).toArray 263 (0,0))
 b:X.heap[bx]?=some (.cells #[At0 g] 337 (0,0))
 G:GlobC X
theorem SpV.below{X Y:Wd}{g bx locs after:Nat}{x:InsD}(h:SpV X g bx x locs after)(hb:Bw X Y):SpV Y g bx x locs after:=⟨zb hb h.c,zb hb h.b,h.G.below hb⟩
theorem SpV.cells{X:Wd}{g bx locs after:Nat}{x:InsD}(h:SpV X g bx x locs after):zF X ⟨g,0,none⟩ (spC x locs after):=za h.c
section
variable{g bx locs after:Nat}{x:InsD}{w:Wd}
theorem zqU(h:SpV w g bx x locs after):CB 234 #[At0 bx] w (.bool (decide (1<=x.op.toNat)&&decide (x.op.toNat<=8))):=by
 refine zC 16 [At0 bx] Tryz.func234 ?_;refine⟨_,zc (za h.b) (i:=0) rfl,_,zc h.cells (i:=0) rfl,biE (fun a=>?_) fun a=>?_⟩
 ·have a:(1:Int)<=x.op.toNat:=dT a;refine⟨_,zc (za h.b) (i:=0) rfl,_,zc h.cells (i:=0) rfl,rb ?_,UR _ _⟩;rw[Uh (p:=1<=x.op.toNat) (by omega),Un,Qw];show(x.op.toNat:Int)<=8↔_;omega
 ·have a:¬(1:Int)<=x.op.toNat:=dF a;refine⟨rb ?_,UR _ _⟩;rw[QX (p:=1<=x.op.toNat) (by omega)];rfl
theorem zqT(h:SpV w g bx x locs after)(hop:x.op.toNat<=8):CB 235 #[At0 bx] w (.bool (decide (x=zfo x))):=by
 refine zC 9 [At0 bx] Tryz.func235 ?_;have a:SpV w.drew g bx x locs after:=h.below (UR _ w).drew;refine DrawE.ord [] [0,1,2,3,4,5,6,7] (by kernel_rfl) ⟨_,zc (za a.b) (i:=0) rfl,zS.enc x,rfl,zI (n:=0) (m:=10) a.cells,hlt a.c,_,zc (za a.b) (i:=0) rfl,cmo (zoh a.cells (hlt a.c) hop a.G) ?_⟩;rintro e V ⟨rfl,d⟩;exact⟨d,_,fun w=>zqH _ _ x (zfo x) w,rfl,(UR _ w).drew.trans d⟩
theorem zqS(h:SpV w g bx x locs after):CB 237 #[At0 bx] w (.bool (decide (x.dst.toNat<8))):=by
 refine zC 8 [At0 bx] Tryz.func237 ?_;refine⟨_,zc (za h.b) (i:=0) rfl,_,zc h.cells (i:=1) rfl,rb ?_,UR _ _⟩;show decide ((x.dst.toNat:Int)<8)=_;rw[Qw];omega
theorem zqR(h:SpV w g bx x locs after)(hop:x.op.toNat<=8):CB 238 #[At0 bx] w (.bool (!jc x.op 2||decide (x.loc.toNat<locs))):=by
 refine zC 18 [At0 bx] Tryz.func238 ?_;have a:SpV w.drew g bx x locs after:=h.below (UR _ w).drew;refine DrawE.ord [] [0,1,2,3,4,5,6,7,8,9,10,11,12,13,14,15,16] (by kernel_rfl) ⟨_,zc (za a.b) (i:=0) rfl,cmo (zea 2 a.cells hop a.G) ?_⟩;rintro e _ ⟨rfl,rfl⟩;refine⟨UR _ _,biE (fun c=>?_) fun c=>?_⟩
 ·have c:(!jc x.op 2)=true:=c;exact⟨rb (by rw[c];rfl),(UR _ w).drew⟩
 ·have c:(!jc x.op 2)=false:=c;refine⟨_,zc (za a.b) (i:=0) rfl,_,zc a.cells (i:=2) rfl,_,qu _,_,zc (za a.b) (i:=0) rfl,_,zc a.cells (i:=10) rfl,rb ?_,(UR _ w).drew⟩;rw[c,Uk,Qw];omega
theorem zqQ(h:SpV w g bx x locs after):CB 240 #[At0 bx] w (.bool (zk4 x.ar x.an&&zk4 x.br x.bn)):=by
 refine zC 16 [At0 bx] Tryz.func240 ?_;refine⟨_,zc (za h.b) (i:=0) rfl,[.bool x.ar,u8 x.an],rfl,zI (n:=3) (m:=2) h.cells,hlt h.c,cmo (zgF x.ar x.an w) ?_⟩;rintro e V ⟨rfl,f⟩;have d:=h.below f;refine biE (fun a=>?_) fun a=>?_
 ·have a:zk4 x.ar x.an=true:=a;refine⟨_,zc (za d.b) (i:=0) rfl,[.bool x.br,u8 x.bn],rfl,zI (n:=5) (m:=2) d.cells,hlt d.c,cmo (zgF x.br x.bn V) ?_⟩;rintro e U ⟨rfl,j⟩;exact⟨rb (by rw[a,Un]),(zst f j)⟩
 ·have a:zk4 x.ar x.an=false:=a;exact⟨rb (by rw[a,QZ]),f⟩
theorem zqP(h:SpV w g bx x locs after)(hop:x.op.toNat<=8):CB 244 #[At0 bx] w (.bool (!jc x.op 64||(decide (1<=x.skip.toNat)&&decide (x.skip.toNat<=after)))):=by
 refine zC 26 [At0 bx] Tryz.func244 ?_;have a:SpV w.drew g bx x locs after:=h.below (UR _ w).drew;refine DrawE.ord [] [0,1,2,3,4,5,6,7,8,9,10,11,12,13,14,15,16,17,18,19,20,21,22,23,24] (by kernel_rfl) ⟨_,zc (za a.b) (i:=0) rfl,cmo (zea 64 a.cells hop a.G) ?_⟩;rintro e _ ⟨rfl,rfl⟩;refine⟨UR _ _,biE (fun c=>?_) fun c=>?_⟩
 ·have c:(!jc x.op 64)=true:=c;exact⟨rb (by rw[c];rfl),(UR _ w).drew⟩
 ·have c:(!jc x.op 64)=false:=c;rw[c,Uk];refine⟨_,zc (za a.b) (i:=0) rfl,_,zc a.cells (i:=9) rfl,biE (fun d=>?_) fun d=>?_⟩
  ·have d:(1:Int)<=x.skip.toNat:=dT d;refine⟨_,zc (za a.b) (i:=0) rfl,_,zc a.cells (i:=9) rfl,_,qu _,_,zc (za a.b) (i:=0) rfl,_,zc a.cells (i:=11) rfl,rb ?_,(UR _ w).drew⟩;rw[Uh (p:=1<=x.skip.toNat) (by omega),Un,Qw];omega
  ·have d:¬(1:Int)<=x.skip.toNat:=dF d;refine⟨rb ?_,(UR _ w).drew⟩;rw[QX (p:=1<=x.skip.toNat) (by omega)];rfl
end
def zik (g bx:Nat):List Value:=[.func (.func 234) #[] #[At0 bx],.func (.func 235) #[] #[At0 bx],.func (.func 237) #[] #[At0 bx],
 .func (.func 238) #[] #[At0 bx],.func (.func 240) #[] #[At0 bx],.func (.func 242) #[At0 g] #[],.func (.func 243) #[At0 g] #[],
 .func (.func 244) #[] #[At0 bx]]
theorem zqO{g:Nat}{w:Wd}:Calls PG 173 #[At0 g] w fun e w'=>e = .returned (.slice (some ⟨w.heap.size+1,0,none⟩) 8 8) /\
  w'.heap[w.heap.size]?=some (.cells #[At0 g] 337 (0,0))/\w'.heap[w.heap.size+1]?=some (.cells (zik g w.heap.size).toArray 31 (0,0))/\w'.heap.size=w.heap.size+2/\Bw w w':=by
 refine zC 14 [At0 g] Tryz.func173 ?_;obtain⟨W,b⟩:=nm (w.alloc (.cells #[At0 g] 337));have f:W.heap[w.heap.size]?=some (.cells #[At0 g] 337 (0,0)):=by rw[b];exact zw w _
 have d:W.heap.size=w.heap.size+1:=by rw[b,wz]
 have c:Bw w W:=by rw[b];exact(zba w _)
 refine⟨_,zc (za (zw w _)) (i:=0) rfl,_,zc (za (zw w _)) (i:=0) rfl,⟨by decide,by decide,rfl⟩,zik g w.heap.size,rfl,?_⟩;have a:=wz w (.cells #[At0 g] 337);refine⟨?_,?_,?_,?_,?_⟩
 ·show Ending.returned (.slice (some ⟨(w.alloc (.cells #[At0 g] 337)).heap.size,0,none⟩) 8 8)=_;rw[a]
 ·exact z6 _ (zw w _)
 ·rw[<- a];exact zw _ _
 ·rw[wz,wz]
 ·exact((zba w _)).alloc (by simp) _
structure ThI (X:Wd) (L:Nat) (x:InsD) (locs after:Nat):Prop where
 c:X.heap[L]?=some (.cells (spC x locs after).toArray 263 (0,0))
 b:X.heap[L+1]?=some (.cells #[At0 L] 337 (0,0))
 s:X.heap[L+2]?=some (.cells (zik L (L+1)).toArray 31 (0,0))
theorem ThI.below{X Y:Wd}{L:Nat}{x:InsD}{locs after:Nat}(h:ThI X L x locs after)(hb:Bw X Y):ThI Y L x locs after:=⟨zb hb h.c,zb hb h.b,zb hb h.s⟩
def zqm:InsD:=⟨0,0,0,false,0,false,0,0,0,0⟩
theorem zjV{l:List Bool}:∀{n:Nat},(∀j,j<n->l[j]?=some true)->n=l.length->l.all id=true:=by
 intro n h e;rw[Qa];intro b c;obtain⟨j,a,rfl⟩:=Kd c;have:=h j (by omega);rw[gE a] at this;exact QV this
theorem zpe{l:List Bool}{j:Nat}(h:l[j]?=some false):l.all id=false:=by
 rw[KF];obtain⟨a,e⟩:=Jo.1 h;exact⟨l[j],gM _,by rw[e];decide⟩
theorem zcK{l:List InsD}{k locs:Nat}(hkl:k<l.length){i:Nat}(h:(qw l[k] locs (l.length-1-k))[i]?=some false){w X:Wd}(hb:Bw w X) :
  Ending.returned (.bool false) = .returned (.bool (qX l locs))/\Bw w X:=by
 refine⟨rb ?_,hb⟩;symm;unfold qX;rw[Bool.and_eq_false_iff];refine .inr ?_;rw[KF];refine⟨k,Ue.2 hkl,?_⟩;rw[gE hkl];show ¬zoB l[k] locs (l.length-1-k)=true;unfold zoB;rw[zpe h];simp
theorem zjX{p:OA}{cap locs:Nat}{l:List InsD}{w:Wd}(hl:SlR zS w p l)(hG:GlobC w)(hn:l.length<=140737488351232) :
  CB 97 #[.slice p l.length cap,i64 locs] w (.bool (qX l locs)):=by
 refine zC 43 [.slice p l.length cap,i64 locs] Tryz.func97 ?_;obtain⟨L,hL⟩:=nm (w.heap.size);refine biE (fun h=>?_) fun h=>?_
 ·have h:(12:Int)<l.length:=dT h;exact⟨rb (by unfold qX;rw[QX (by omega)];rfl),UR _ _⟩
 have ar:¬(12:Int)<l.length:=dF h;refine⟨spC zqm locs 0,rfl,zr (X:=w) (v := .agg (spC zqm locs 0).toArray) ztz rfl rfl rfl fun V af fV sV=>cmo zqO ?_⟩;rintro e W0 ⟨rfl,ae,ac,al,ab⟩;rw[sV,<- hL] at al ae ac;have ap:ThI W0 L zqm locs 0:=⟨hL▸zb ab fV,ae,ac⟩;have ao:Bw w W0:=zst af ab;have p1:some (Value.pointer (some ⟨w.heap.size,0,none⟩))=some (At0 L):=by rw[hL]
 have p2:some (Value.slice (some ⟨V.heap.size+1,0,none⟩) 8 8)=some (Value.slice (some ⟨L+2,0,none⟩) 8 8):=by rw[sV,hL]
 clear ae ac fV sV ab af;refine⟨Nat,fun k=>⟨[(0,.slice p l.length cap),(1,i64 locs),(5,At0 L),(6,.slice (some ⟨L+2,0,none⟩) 8 8),(17,.slice p l.length cap),(18,i64 l.length),(19,i64 (k:Nat))],[]⟩,
  fun k X=>k<=l.length/\(∀i,i<k->∀x,l[i]?=some x->zoB x locs (l.length-1-i)=true)/\(∃x aft,ThI X L x locs aft)/\Bw w X,fun k=>l.length-k,0,
  ⟨.cons rfl (.cons rfl (.cons p1 (.cons p2 (.cons rfl (.cons rfl (.cons rfl .nil)))))),rfl⟩,⟨UP _,fun i u=>by omega,⟨zqm,0,ap⟩,ao⟩,?_⟩
 rintro k X ⟨hk,y,⟨x0,a0,hI⟩,aa⟩;dsimp only at hk y ⊢;refine biE (fun hc=>?_) fun hc=>?_
 ·have hc:(k:Int)<(l.length:Int):=dT hc;have q:k<l.length:=by omega
  obtain⟨b,o,rfl,ai,am⟩:=hl.at q;refine⟨k,rfl,q,?_⟩;have hx:=am k q;refine⟨zS.enc l[k],rfl,q5 aa ai hx,nL ai aa.size,zr (X:=X) (v := .agg (zS.enc l[k]).toArray) k68 rfl rfl rfl fun Y ah fY sY=>⟨zS.enc l[k],rfl,za fY,hlt fY,((l.length-1:Nat):Int),(zg (by omega)).trans (by omega),((l.length-1-k:Nat):Int),(zg (by omega)).trans (by omega),?_⟩⟩;have hY:=hI.below ah;refine jp k68 hY.c (o:=0) (v := .agg (zS.enc l[k]).toArray) rfl (by show 0+10<=12;omega) rfl fun Z fZ gZ sZ=>jp k3 fZ (o:=11) (v:=i64 (l.length-1-k:Nat)) rfl (by show 11+1<=12;omega) rfl fun U fU gU sU=>?_;have aj:ThI U L l[k] locs (l.length-1-k):=⟨fU,(gU.block _ (by have:=hlt hY.b;omega) (by simp)).trans ((gZ.block _ (hlt hY.b) (by simp)).trans hY.b),(gU.block _ (by have:=hlt hY.s;omega) (by simp)).trans ((gZ.block _ (hlt hY.s) (by simp)).trans hY.s)⟩;have ag:Bw w U:=by
   have h1:Bw w Y:=zst aa ah;have h2:∀(A B:Wd),Bw w A->A.grownBy B (some L)->Bw w B:=fun A B ha hg=>ha.trans ⟨hg.os,hg.tape,hg.output,hg.size,fun j hj=>hg.block j (nL hj ha.size) (by simp;omega)⟩;exact h2 _ _ (h2 _ _ h1 gZ) gU
  refine⟨Nat,fun j=>⟨[(0,.slice (some ⟨b,o,none⟩) l.length cap),(1,i64 locs),(5,At0 L),(6,.slice (some ⟨L+2,0,none⟩) 8 8),(17,.slice (some ⟨b,o,none⟩) l.length cap),(18,i64 l.length),(19,i64 (k:Nat)),(32,.slice (some ⟨L+2,0,none⟩) 8 8),(33,i64 8),(34,i64 (j:Nat))],[]⟩,
   fun j X=>j<=8/\(∀i,i<j->(qw l[k] locs (l.length-1-k))[i]?=some true)/\ThI X L l[k] locs (l.length-1-k)/\Bw w X,fun j=>8-j,0,
   (cvE rfl rfl),⟨UP _,fun i u=>by omega,aj,ag⟩,?_⟩
  clear aj ag;rintro j X2 ⟨hj,g,t,f⟩;dsimp only at hj g ⊢;have an:GlobC X2:=hG.below f;have hS:SpV X2 L (L+1) l[k] locs (l.length-1-k):=⟨t.c,t.b,an⟩;refine biE (fun z=>?_) fun z=>?_
  ·have z:(j:Int)<8:=dT z;refine⟨j,rfl,(by omega),?_⟩;have ho:0<j->l[k].op.toNat<=8:=fun h0=>by
    have:=QV (g 0 h0);rw[bAT] at this;exact dT this.2
   have r:∀{v:Value},(zik L (L+1))[j]?=some v->X2.cell? ⟨L+2,0+j*1,none⟩=some v:=fun hv=>by
    have:=zc (za t.s) (i:=j) (by simpa using hv);rw[UO];exact this
   have aq:j=0\/j=1\/j=2\/j=3\/j=4\/j=5\/j=6\/j=7:=by omega
   rcases aq with rfl | rfl | rfl | rfl | rfl | rfl | rfl | rfl
   ·refine⟨_,r rfl,cmo (zqU hS) ?_⟩;rintro e W ⟨rfl,d⟩;have n:=t.below d;refine biE (fun a=>?_) fun a=>?_
    ·have a:(!((qw l[k] locs (l.length-1-k))[0]'(by show 0<8;decide)))=true:=a;have a:(qw l[k] locs (l.length-1-k))[0]?=some false:=(by rw[gE (by show 0<8;decide)];exact UY some (by rw[<- Uv ((qw l[k] locs (l.length-1-k))[0]'(by show 0<8;decide)),a];rfl));exact zcK q a ((zst f d))
    ·have a:(!((qw l[k] locs (l.length-1-k))[0]'(by show 0<8;decide)))=false:=a;have a:(qw l[k] locs (l.length-1-k))[0]?=some true:=(by rw[gE (by show 0<8;decide)];exact UY some (by rw[<- Uv ((qw l[k] locs (l.length-1-k))[0]'(by show 0<8;decide)),a];rfl));refine⟨_,(zg (by omega)).trans rfl,1,(cvE rfl rfl),⟨by omega,fun i u=>?_,n,(zst f d)⟩,by decide⟩;by_cases m:i=0
     ·rw[m];exact a
     ·exact g i (by omega)
   ·refine⟨_,r rfl,cmo (zqT hS (ho (by omega))) ?_⟩;rintro e W ⟨rfl,d⟩;have n:=t.below d;refine biE (fun a=>?_) fun a=>?_
    ·have a:(!((qw l[k] locs (l.length-1-k))[1]'(by show 1<8;decide)))=true:=a;have a:(qw l[k] locs (l.length-1-k))[1]?=some false:=(by rw[gE (by show 1<8;decide)];exact UY some (by rw[<- Uv ((qw l[k] locs (l.length-1-k))[1]'(by show 1<8;decide)),a];rfl));exact zcK q a ((zst f d))
    ·have a:(!((qw l[k] locs (l.length-1-k))[1]'(by show 1<8;decide)))=false:=a;have a:(qw l[k] locs (l.length-1-k))[1]?=some true:=(by rw[gE (by show 1<8;decide)];exact UY some (by rw[<- Uv ((qw l[k] locs (l.length-1-k))[1]'(by show 1<8;decide)),a];rfl));refine⟨_,(zg (by omega)).trans rfl,2,(cvE rfl rfl),⟨by omega,fun i u=>?_,n,(zst f d)⟩,by decide⟩;by_cases m:i=1
     ·rw[m];exact a
     ·exact g i (by omega)
   ·refine⟨_,r rfl,cmo (zqS hS) ?_⟩;rintro e W ⟨rfl,d⟩;have n:=t.below d;refine biE (fun a=>?_) fun a=>?_
    ·have a:(!((qw l[k] locs (l.length-1-k))[2]'(by show 2<8;decide)))=true:=a;have a:(qw l[k] locs (l.length-1-k))[2]?=some false:=(by rw[gE (by show 2<8;decide)];exact UY some (by rw[<- Uv ((qw l[k] locs (l.length-1-k))[2]'(by show 2<8;decide)),a];rfl));exact zcK q a ((zst f d))
    ·have a:(!((qw l[k] locs (l.length-1-k))[2]'(by show 2<8;decide)))=false:=a;have a:(qw l[k] locs (l.length-1-k))[2]?=some true:=(by rw[gE (by show 2<8;decide)];exact UY some (by rw[<- Uv ((qw l[k] locs (l.length-1-k))[2]'(by show 2<8;decide)),a];rfl));refine⟨_,(zg (by omega)).trans rfl,3,(cvE rfl rfl),⟨by omega,fun i u=>?_,n,(zst f d)⟩,by decide⟩;by_cases m:i=2
     ·rw[m];exact a
     ·exact g i (by omega)
   ·refine⟨_,r rfl,cmo (zqR hS (ho (by omega))) ?_⟩;rintro e W ⟨rfl,d⟩;have n:=t.below d;refine biE (fun a=>?_) fun a=>?_
    ·have a:(!((qw l[k] locs (l.length-1-k))[3]'(by show 3<8;decide)))=true:=a;have a:(qw l[k] locs (l.length-1-k))[3]?=some false:=(by rw[gE (by show 3<8;decide)];exact UY some (by rw[<- Uv ((qw l[k] locs (l.length-1-k))[3]'(by show 3<8;decide)),a];rfl));exact zcK q a ((zst f d))
    ·have a:(!((qw l[k] locs (l.length-1-k))[3]'(by show 3<8;decide)))=false:=a;have a:(qw l[k] locs (l.length-1-k))[3]?=some true:=(by rw[gE (by show 3<8;decide)];exact UY some (by rw[<- Uv ((qw l[k] locs (l.length-1-k))[3]'(by show 3<8;decide)),a];rfl));refine⟨_,(zg (by omega)).trans rfl,4,(cvE rfl rfl),⟨by omega,fun i u=>?_,n,(zst f d)⟩,by decide⟩;by_cases m:i=3
     ·rw[m];exact a
     ·exact g i (by omega)
   ·refine⟨_,r rfl,cmo (zqQ hS) ?_⟩;rintro e W ⟨rfl,d⟩;have n:=t.below d;refine biE (fun a=>?_) fun a=>?_
    ·have a:(!((qw l[k] locs (l.length-1-k))[4]'(by show 4<8;decide)))=true:=a;have a:(qw l[k] locs (l.length-1-k))[4]?=some false:=(by rw[gE (by show 4<8;decide)];exact UY some (by rw[<- Uv ((qw l[k] locs (l.length-1-k))[4]'(by show 4<8;decide)),a];rfl));exact zcK q a ((zst f d))
    ·have a:(!((qw l[k] locs (l.length-1-k))[4]'(by show 4<8;decide)))=false:=a;have a:(qw l[k] locs (l.length-1-k))[4]?=some true:=(by rw[gE (by show 4<8;decide)];exact UY some (by rw[<- Uv ((qw l[k] locs (l.length-1-k))[4]'(by show 4<8;decide)),a];rfl));refine⟨_,(zg (by omega)).trans rfl,5,(cvE rfl rfl),⟨by omega,fun i u=>?_,n,(zst f d)⟩,by decide⟩;by_cases m:i=4
     ·rw[m];exact a
     ·exact g i (by omega)
   ·refine⟨_,r rfl,cmo (zi9 hS.cells) ?_⟩;rintro e _ ⟨rfl,rfl⟩;have d:Bw X2 X2:=UR _ _;have n:=t;refine biE (fun a=>?_) fun a=>?_
    ·have a:(!((qw l[k] locs (l.length-1-k))[5]'(by show 5<8;decide)))=true:=a;have a:(qw l[k] locs (l.length-1-k))[5]?=some false:=(by rw[gE (by show 5<8;decide)];exact UY some (by rw[<- Uv ((qw l[k] locs (l.length-1-k))[5]'(by show 5<8;decide)),a];rfl));exact zcK q a ((zst f d))
    ·have a:(!((qw l[k] locs (l.length-1-k))[5]'(by show 5<8;decide)))=false:=a;have a:(qw l[k] locs (l.length-1-k))[5]?=some true:=(by rw[gE (by show 5<8;decide)];exact UY some (by rw[<- Uv ((qw l[k] locs (l.length-1-k))[5]'(by show 5<8;decide)),a];rfl));refine⟨_,(zg (by omega)).trans rfl,6,(cvE rfl rfl),⟨by omega,fun i u=>?_,n,(zst f d)⟩,by decide⟩;by_cases m:i=5
     ·rw[m];exact a
     ·exact g i (by omega)
   ·refine⟨_,r rfl,cmo (zmQ hS.cells) ?_⟩;rintro e _ ⟨rfl,rfl⟩;have d:Bw X2 X2:=UR _ _;have n:=t;refine biE (fun a=>?_) fun a=>?_
    ·have a:(!((qw l[k] locs (l.length-1-k))[6]'(by show 6<8;decide)))=true:=a;have a:(qw l[k] locs (l.length-1-k))[6]?=some false:=(by rw[gE (by show 6<8;decide)];exact UY some (by rw[<- Uv ((qw l[k] locs (l.length-1-k))[6]'(by show 6<8;decide)),a];rfl));exact zcK q a ((zst f d))
    ·have a:(!((qw l[k] locs (l.length-1-k))[6]'(by show 6<8;decide)))=false:=a;have a:(qw l[k] locs (l.length-1-k))[6]?=some true:=(by rw[gE (by show 6<8;decide)];exact UY some (by rw[<- Uv ((qw l[k] locs (l.length-1-k))[6]'(by show 6<8;decide)),a];rfl));refine⟨_,(zg (by omega)).trans rfl,7,(cvE rfl rfl),⟨by omega,fun i u=>?_,n,(zst f d)⟩,by decide⟩;by_cases m:i=6
     ·rw[m];exact a
     ·exact g i (by omega)
   ·refine⟨_,r rfl,cmo (zqP hS (ho (by omega))) ?_⟩;rintro e W ⟨rfl,d⟩;have n:=t.below d;refine biE (fun a=>?_) fun a=>?_
    ·have a:(!((qw l[k] locs (l.length-1-k))[7]'(by show 7<8;decide)))=true:=a;have a:(qw l[k] locs (l.length-1-k))[7]?=some false:=(by rw[gE (by show 7<8;decide)];exact UY some (by rw[<- Uv ((qw l[k] locs (l.length-1-k))[7]'(by show 7<8;decide)),a];rfl));exact zcK q a ((zst f d))
    ·have a:(!((qw l[k] locs (l.length-1-k))[7]'(by show 7<8;decide)))=false:=a;have a:(qw l[k] locs (l.length-1-k))[7]?=some true:=(by rw[gE (by show 7<8;decide)];exact UY some (by rw[<- Uv ((qw l[k] locs (l.length-1-k))[7]'(by show 7<8;decide)),a];rfl));refine⟨_,(zg (by omega)).trans rfl,8,(cvE rfl rfl),⟨by omega,fun i u=>?_,n,(zst f d)⟩,by decide⟩;by_cases m:i=7
     ·rw[m];exact a
     ·exact g i (by omega)
  ·have z:¬(j:Int)<8:=dF z;obtain rfl:j=8:=by omega
   have ak:zoB l[k] locs (l.length-1-k)=true:=zjV g rfl;refine nxI (by omega) ⟨k+1,(cvE rfl rfl),⟨q,fun i u x ad=>?_,⟨_,_,t⟩,f⟩,zdc (by omega)⟩;by_cases m:i=k
   ·subst m;rw[gE q] at ad;rw[<- QV ad];exact ak
   ·exact y i (by omega) x ad
 ·have hc:¬(k:Int)<(l.length:Int):=dF hc;obtain rfl:k=l.length:=by omega
  refine⟨rb ?_,aa⟩;unfold qX;rw[Uh (by omega),Un,Eq.comm,Qa];intro i u;have u:i<l.length:=Ue.1 u;rw[gE u];exact y i u _ (gE u)
structure GlobE (w:Wd):Prop where
 c:GlobC w
 t64:Tz64M w
 t32:Tz32M w
theorem GlobE.below{w w2:Wd}(h:GlobE w)(hb:Bw w w2):GlobE w2:=⟨h.c.below hb,h.t64.below hb,h.t32.below hb⟩
abbrev zcO:=PathD×(OA×Nat)×(OA×Nat)×(OA×Nat)×(OA×Nat)
def ji:Enc zcO:=⟨fun x=>zgS x.1 x.2.1.1 x.2.1.2 x.2.2.1.1 x.2.2.1.2 x.2.2.2.1.1 x.2.2.2.1.2 x.2.2.2.2.1 x.2.2.2.2.2,12,fun _=>ziX ..,by decide,fun a u hu=>Qa.1 (ziW ..) u hu⟩
structure RowIn {α:Type} (E:Enc α) (T:TypeId) (B:Nat) (F:Nat->Prop) (Y:Wd) (q:OA) (c:Nat) (l:List α):Prop where
 own:OwnS E T B Y q c l
 inF:∀a,q=some a->F a.block
section
variable{α:Type}{E:Enc α}{T:TypeId}{B:Nat}{F G:Nat->Prop}{Y Z:Wd}{q:OA}{c:Nat}{l:List α}
theorem zap(h:OwnS E T B Y q c l){a:Addr}(ha:q=some a):B<=a.block/\a.block<Y.heap.size/\∃cur,Y.heap[a.block]?=some (.cells cur T (0,0)):=by
 rcases h.inv with⟨b,_⟩ | ⟨g,cur,b,e,d,_⟩
 ·rw[b] at ha;cases ha
 ·rw[b] at ha;cases ha;exact⟨e,hlt d,cur,d⟩
theorem RowIn.same(h:RowIn E T B F Y q c l)(hs:∀k,F k->k<Y.heap.size->Z.heap[k]?=Y.heap[k]?)(hG:∀k,F k->G k):RowIn E T B G Z q c l :=
 ⟨h.own.same fun a b=>hs _ (h.inF a b) (zap h.own b).2.1,fun a b=>hG _ (h.inF a b)⟩
end
def PthIn (B:Nat) (F:Nat->Prop) (Y:Wd) (x:zcO):Prop:=RowIn evE 80 B F Y x.2.1.1 x.2.1.2 x.1.ev/\RowIn prE 46 B F Y x.2.2.1.1 x.2.2.1.2 x.1.data/\RowIn prE 46 B F Y x.2.2.2.1.1 x.2.2.2.1.2 x.1.ctrl/\RowIn prE 46 B F Y x.2.2.2.2.1 x.2.2.2.2.2 x.1.rmw
theorem PthIn.same{B:Nat}{F G:Nat->Prop}{Y Z:Wd}{x:zcO}(h:PthIn B F Y x)(hs:∀k,F k->k<Y.heap.size->Z.heap[k]?=Y.heap[k]?)(hG:∀k,F k->G k):PthIn B G Z x :=
 ⟨h.1.same hs hG,h.2.1.same hs hG,h.2.2.1.same hs hG,h.2.2.2.same hs hG⟩
theorem qO{W A B:Wd}{r:Option Nat}(h:W.grownBy A r)(hb:Below W.heap.size A B):W.grownBy B r :=
 ⟨hb.os.trans h.os,hb.tape.trans h.tape,hb.output.trans h.output,UC h.size hb.size,fun k b a=>(hb.block k b).trans (h.block k b a)⟩
theorem zpC{q:OA}{cap:Nat}{l:List InsD}{w:Wd}(hl:SlR zS w q l)(hG:GlobC w)(hn:l.length<=140737488351232) :
  CB 125 #[.slice q l.length cap] w (.bool (qX l 6)):=by
 refine zC 5 [.slice q l.length cap] Tryz.func125 ?_;refine cmo (zjX (locs:=6) hl hG hn) ?_;rintro e X ⟨rfl,a⟩;exact⟨rfl,a⟩
def JPa (B n0 L:Nat) (W:Wd) (pre:List RunD) (F:Nat->Prop) (Y:Wd):Prop :=
 (n0<=Y.heap.size/\F L/\∀k,F k->k<Y.heap.size)/\(∃(xs:List zcO) (p:OA) (c:Nat),Y.heap[L]?=some (.cells [.slice p xs.length c].toArray 101 (0,0))/\RowIn ji 145 B F Y p c xs/\xs.map (·.1)=pre.map zbP/\∀x∈xs,PthIn n0 F Y x)/\Below B W Y
theorem JPa.iter{B n0 L:Nat}{W:Wd}(hB:B<=n0)(hn:n0=W.heap.size):JG n0 (fun _=>False) (JPa B n0 L W):=by
 refine⟨?_,?_⟩
 ·rintro f F A C ⟨⟨t,g,d⟩,⟨r,p,c,s,j,n,u⟩,o⟩ a;have e:∀k,F k->k<A.heap.size->C.heap[k]?=A.heap[k]?:=fun k b i=>a.same k i (.inr b);refine⟨⟨UC t a.size,g,fun k b=>nL (d k b) a.size⟩,⟨r,p,c,(e L g (d L g)).trans s,j.same e fun k h=>h,n,fun x m=>(u x m).same e fun k h=>h⟩,o.trans ⟨a.os,a.tape,a.output,a.size,fun k b=>a.same k (by omega) (.inl ⟨by omega,fun h=>h⟩)⟩⟩
 ·rintro f F A k ⟨⟨_,_,d⟩,_⟩ b;exact⟨d k b,fun h=>h⟩
def PthO (B:Nat) (Y:Wd) (x:zcO):Prop:=OwnS evE 80 B Y x.2.1.1 x.2.1.2 x.1.ev/\OwnS prE 46 B Y x.2.2.1.1 x.2.2.1.2 x.1.data/\OwnS prE 46 B Y x.2.2.2.1.1 x.2.2.2.1.2 x.1.ctrl/\OwnS prE 46 B Y x.2.2.2.2.1 x.2.2.2.2.2 x.1.rmw
theorem PthO.mono{B B':Nat}{Y:Wd}{x:zcO}(h:PthO B Y x)(hB:B'<=B):PthO B' Y x:=⟨OwnS.lower h.1 hB,OwnS.lower h.2.1 hB,OwnS.lower h.2.2.1 hB,OwnS.lower h.2.2.2 hB⟩
section
variable{l:List InsD}{vals:List UInt8}{q p:OA}{cap cd:Nat}{w:Wd}
theorem zrb(hl:SlR zS w q l)(hp:SlR zN w p vals)(hv1:1<=vals.length)(hv12:vals.length<=12)(hvs:zdj vals=true)(hx:∀x∈l,zc7 x)(hok:qX l 6=true)(hG:GlobE w)(hR:∀R∈jT l (ded vals),R.many<=24/\zsD R)(hm:(jT l (ded vals)).length<=4096)(hqb:∀a,q=some a->a.block<w.heap.size)(hdl:(ded vals).length<=12) :
  Calls PG 64 #[.slice q l.length cap,.slice p vals.length cd,i64 4096] w fun e w'=>(∃(xs:List zcO) (p':OA) (c':Nat),e = .returned (.tuple #[.slice p' xs.length c',i64 0])/\xs.map (·.1)=(jT l (ded vals)).map zbP/\OwnS ji 145 w.heap.size w' p' c' xs/\∀x∈xs,PthO w.heap.size w' x)/\Bw w w':=by
 have be:l.length<=12:=by
  unfold qX at hok;rw[bAT,dE] at hok;exact hok.1
 refine qg 45 [.slice q l.length cap,.slice p vals.length cd,i64 4096] (.c .p (.s .p (.c .p (.c .p (.c .p (.c .p .p)))))) Tryz.func64 ?_;obtain⟨L,hL⟩:=nm (w.heap.size);refine⟨Unit,fun _=>⟨[(0,.slice q l.length cap),(1,.slice p vals.length cd),(5,AtR L),(6,AtR (L+1)),(7,AtR (L+2))],[]⟩,fun _ X=>X.heap[L]?=some (.cells #[i64 4096] 3 (0,0))/\X.heap[L+1]?=some (.cells #[.slice none 0 0] 101 (0,0))/\X.heap[L+2]?=some (.cells #[i64 0] 33 (0,0))/\X.heap.size=L+3/\Bw w X,?_,?_⟩
 ·have s1:=wz w (.cells #[i64 4096] 3);have h2:=zw (w.alloc (.cells #[i64 4096] 3)) (.cells #[.slice none 0 0] 101);have s2:=wz (w.alloc (.cells #[i64 4096] 3)) (.cells #[.slice none 0 0] 101);have h3:=zw ((w.alloc (.cells #[i64 4096] 3)).alloc (.cells #[.slice none 0 0] 101)) (.cells #[i64 0] 33);have s3:=wz ((w.alloc (.cells #[i64 4096] 3)).alloc (.cells #[.slice none 0 0] 101)) (.cells #[i64 0] 33);rw[s1] at h2 s2;rw[s2] at h3 s3;refine⟨(),⟨.cons rfl (.cons rfl (.cons (by rw[hL];rfl) (.cons (by rw[hL,<- s1];rfl) (.cons (by rw[hL,<- s2];rfl) .nil)))),rfl⟩,?_,?_,?_,?_,?_⟩
  ·rw[hL];exact z6 _ (z6 _ (zw w _))
  ·rw[hL];exact z6 _ h2
  ·rw[hL];exact h3
  ·rw[hL];exact s3
  ·exact(((zba w _)).alloc (by simp) _).alloc (by simp;omega) _
 rintro _ X ⟨f0,f1,f2,sX,a6⟩;refine⟨_,zc (za f0) (i:=0) rfl,brF ⟨_,zc (za f0) (i:=0) rfl,brF (cmo (zpC (hl.below a6) (hG.c.below a6) (by omega)) ?_)⟩⟩;rintro e Y ⟨rfl,am⟩;rw[hok];refine brF ?_;have ak:=zst a6 am;have f0:=zb am f0;have f1:=zb am f1;have f2:=zb am f2;have sY:=am.size;obtain⟨D,hD⟩:=nm (ded vals);rw[<- hD] at hR hm hdl ⊢;refine⟨OA×Nat,fun s=>⟨[(0,.slice q l.length cap),(1,.slice s.1 D.length s.2),(5,AtR L),(6,AtR (L+1)),(7,AtR (L+2))],[]⟩,fun s Z=>OwnS zN 5 (L+3) Z s.1 s.2 D/\Bw Y Z,?_,?_⟩
 ·refine cmo (zdC (hp.below ak) hv1 hv12 hvs) ?_;rintro e Z ⟨⟨d,cc,rfl,ho⟩,af⟩;rw[<- hD] at ho;exact⟨(d,cc),⟨.cons rfl (.cons (by rw[hD];rfl) (.cons rfl (.cons rfl (.cons rfl .nil)))),rfl⟩,OwnS.lower ho (by omega),af⟩
 rintro⟨d,cc⟩ Z ⟨oD,af⟩;dsimp only at oD ⊢;have bd:=zst ak af;have f0:=zb af f0;have f1:=zb af f1;have f2:=zb af f2;have sZ:=af.size;obtain⟨N,hN⟩:=nm (Z.heap.size);refine⟨Unit,fun _=>⟨[(0,.slice q l.length cap),(1,.slice d D.length cc),(5,AtR L),(6,AtR (L+1)),(7,AtR (L+2)),(8,AtR N)],[]⟩,fun _ V=>V.heap[N]?=some (.cells [i64 0].toArray 3 (0,0))/\V.heap.size=N+1/\Bw Z V,?_,?_⟩
 ·exact zr (X:=Z) (v:=i64 0) k3 rfl rfl rfl fun V u fV sV=>⟨(),⟨.cons rfl (.cons rfl (.cons rfl (.cons rfl (.cons rfl (.cons (by rw[hN];rfl) .nil))))),rfl⟩,by rw[hN];exact fV,by rw[hN];exact sV,u⟩
 rintro _ V ⟨fN,sV,u⟩;have aj:=zst bd u;have f0:=zb u f0;have f1:=zb u f1;have f2:=zb u f2;have ae:∀a,d=some a->a.block<N:=fun a f=>by rw[hN];exact(zap oD f).2.1
 have oD:=oD.below u;have cm:w.heap.size<=N:=by rw[hN];exact bd.size
 have ch:L+3<=N:=by omega
 obtain⟨ah,an⟩:=nm (jT l D);rw[<- an] at hR hm ⊢;refine⟨Nat,fun D1=>⟨[(0,.slice q l.length cap),(1,.slice d D.length cc),(5,AtR L),(6,AtR (L+1)),(7,AtR (L+2)),(8,AtR N)],[{ target := .collected D1,args := #[] }]⟩,fun D1 U=>U.heap[N]?=some (.cells #[i64 ah.length] 3 (0,0))/\U.heap[D1]?=some (.deferred (some []))/\N<D1/\V.grownBy U (some N),?_,?_⟩
 ·refine cmo zii ?_;rintro e W ⟨rfl,fi,fd,sW,z⟩;have ab:=zst aj z;have b7:=zb z fN;have bi:=zb z f0;have ba:∀a,q=some a->a.block<w.heap.size:=hqb;have hI:=zkN (q:=q) (p:=d) (hl.below ab) (oD.below z).row fi fd (fun a f=>by have:=ba a f;have:=ab.size;omega) (fun a f=>by have:=ae a f;omega) be hx (by omega);rw[<- an] at hI;refine zcw (zes _) rfl (lb := #[AtR V.heap.size,AtR (V.heap.size+1)]) rfl rfl hI (UN _) (fun k hk=>⟨?_,rfl⟩) (fun n vs W ⟨R,b,_,h,_⟩=>by rw[h];rfl) (by decide)
   (fun k=>k=N) (fun n F Y=>F=(fun k=>k=N)/\W.heap.size<=Y.heap.size/\Y.heap[N]?=some (.cells [i64 n.length].toArray 3 (0,0))/\W.grownBy Y (some N)) (fun _ _ _ _=>False) (fun k hk=>?_)
   (joG (F:=fun k=>k=N) (J:=fun(n:List RunD) Y=>W.heap.size<=Y.heap.size/\Y.heap[N]?=some (.cells [i64 n.length].toArray 3 (0,0))/\W.grownBy Y (some N)) (fun k h=>by omega) (fun s A h=>h.1) (fun n A B ⟨h1,h2,h3⟩ hb=>⟨UC h1 hb.size,jO hb (by omega) h2,qO h3 hb⟩))
   (fun ex=>⟨fun _ _ _ _ h=>h.elim,fun _ _ _ _ h=>h.elim⟩) ⟨rfl,UN _,b7,qP _ _⟩ ?_ ?_ ?_
  ·rcases hk with((rfl | rfl) | ⟨a,f,rfl⟩ | ⟨a,f,rfl⟩) | h
   ·omega
   ·omega
   ·have:=ba a f;have:=ab.size;omega
   ·have:=ae a f;omega
   ·exact h.elim
  ·rcases hk with(rfl | rfl) | ⟨a,f,rfl⟩ | ⟨a,f,rfl⟩
   ·omega
   ·omega
   ·have:=ba a f;omega
   ·have:=ae a f;omega
  ·rintro yl n x vs F Y bx ac hJ ⟨R',b',_,rfl,_⟩ b6 ay;refine⟨rfl,F,KeepsG.refl _ _,hJ,?_⟩;rintro o Y2 bc ⟨rfl,h1,h2,h3⟩;have bu:n.length<ah.length:=by
    obtain⟨t,ht⟩:=ac;rw[<- ht];simp only[lap,Qj];omega
   have g0:Y2.heap[L]?=some (.cells #[i64 4096] 3 (0,0)):=(h3.block L (hlt bi) (by simp;omega)).trans bi;refine⟨_,zc (za h2) (i:=0) rfl,_,zc (za g0) (i:=0) rfl,brN (QX (by omega)) ⟨_,zc (za h2) (i:=0) rfl,((n.length+1:Nat):Int),(zg (by omega)).trans (by omega),zn k3 h2 (o:=0) (v:=i64 (n.length+1:Nat)) rfl rfl (by show 0<1;decide) rfl fun Z fZ gZ sZ=>⟨_,⟨rfl,by omega,?_,zf h3 gZ⟩,KeepsG.grown (F:=fun k=>k=N) gZ rfl⟩⟩⟩;rw[lap];exact fZ
  ·rintro D1 F Y hD ag ⟨rfl,h1,h2,h3⟩ ai;refine⟨D1,(cvE rfl rfl),h2,ai,by omega,?_⟩;exact zf (zi z) h3
  ·rintro D ex n F Y hD ag ac h;exact h.elim
 clear fN sV;rintro D1 U ⟨fN,ap,cl,gU⟩;have a0:∀{k:Nat} {o:Obj},k≠N->V.heap[k]?=some o->U.heap[k]?=some o:=fun{k o} a4 h=>(gU.block k (hlt h) (by simpa using a4)).trans h;have sU:=gU.size;have ci:=u.size;have f1:=a0 (by omega) f1;have f2:=a0 (by omega) f2;have oD:OwnS zN 5 (L+3) U d cc D:=oD.kept gU fun g hg e=>by
  have:g<N:=ae _ hg;simp only[KS] at e;omega
 have bq:Bw w U:=aj.trans ⟨gU.os,gU.tape,gU.output,gU.size,fun k hk=>gU.block k (by have:=aj.size;omega) (by simp;omega)⟩;clear f0 a0 gU u aj;obtain⟨M,hM⟩:=nm (U.heap.size);have cn:=hlt ap;refine⟨OA×Nat,fun s=>⟨[(0,.slice q l.length cap),(1,.slice d D.length cc),(6,AtR (L+1)),(7,AtR (L+2)),(9,AtR (M+1))],[{ target := .collected D1,args := #[] }]⟩,fun s Z=>Z.heap[M+1]?=some (.cells [.slice s.1 0 s.2].toArray 101 (0,0))/\OwnS ji 145 M Z s.1 s.2 []/\(∀a,s.1=some a->a.block=M)/\Z.heap.size=M+2/\Bw U Z,?_,?_⟩
 ·refine⟨_,zc (za fN) (i:=0) rfl,zcC (E:=ji) Tryz.underlying101 zmL rfl rfl rfl ah.length (by show 104*_<=_;omega) (by unfold maxLen;omega) fun Z oZ aq ax=>zr (X:=Z) (v := .slice (some ⟨U.heap.size,0,none⟩) 0 ah.length) zqi rfl rfl rfl fun Z2 ar ao a8=>?_⟩;rw[<- hM] at oZ ax;rw[ax] at ao a8;refine⟨(some ⟨M,0,none⟩,ah.length),⟨.cons rfl (.cons rfl (.cons rfl (.cons rfl (.cons (by rw[<- ax];rfl) .nil)))),rfl⟩,by rw[hM] at ao ⊢;exact ao,oZ.below ar,fun a f=>by cases f;rfl,a8,aq.trans (ar.mono aq.size)⟩
 clear fN;rintro⟨p0,c0⟩ V ⟨fV,oV,bn,sV,u⟩;dsimp only at fV oV bn;have f1:=zb u f1;have f2:=zb u f2;have ap:=zb u ap;have oD:=oD.below u;have aj:=zst bq u;have a3:w.heap.size<=M:=by rw[hM];exact bq.size
 have cb:∀a,d=some a->a.block<N:=ae;refine cmo zii ?_;rintro e W ⟨rfl,fi,fd,sW,z⟩;have ab:=zst aj z;have ck:Bw V W:=z;have hI:=zkN (q:=q) (p:=d) (hl.below ab) (oD.below z).row fi fd (fun a f=>by have:=hqb a f;have:=ab.size;omega) (fun a f=>by have:=ae a f;omega) be hx (by omega);rw[<- an] at hI;refine zcw (zes _) rfl (lb := #[AtR V.heap.size,AtR (V.heap.size+1)]) rfl rfl hI (UN _) (fun k hk=>⟨?_,rfl⟩) (fun n vs W ⟨R,b,_,h,_⟩=>by rw[h];rfl) (by decide)
  (fun k=>k=M+1\/k=M) (JPa M W.heap.size (M+1) W) (fun _ _ _ _=>False) (fun k hk=>?_)
  (JPa.iter (by omega) rfl) (fun ex=>⟨fun _ _ _ _ h=>h.elim,fun _ _ _ _ h=>h.elim⟩) ⟨⟨UN _,.inl rfl,fun k hk=>by omega⟩,⟨[],p0,c0,zb z fV,⟨oV.below z,fun a f => .inr (bn a f)⟩,rfl,fun x hx=>(by cases hx)⟩,UR _ _⟩ ?_ ?_ ?_
 ·rcases hk with((rfl | rfl) | ⟨a,f,rfl⟩ | ⟨a,f,rfl⟩) | h
  ·omega
  ·omega
  ·have:=hqb a f;have:=ab.size;omega
  ·have:=ae a f;omega
  ·exact h.elim
 ·rcases hk with(rfl | rfl) | ⟨a,f,rfl⟩ | ⟨a,f,rfl⟩
  ·omega
  ·omega
  ·have:=hqb a f;omega
  ·have:=ae a f;omega
 ·rintro yl n x vs F Y bx ac hJ ⟨R,b,az,rfl,fR⟩ b6 ⟨lo,ay⟩;have b8:x=R:=by simpa using az
  subst b8;refine⟨rfl,F,KeepsG.refl _ _,hJ,?_⟩;rintro o Y2 bc ⟨⟨h1,h2,h3⟩,⟨xs,p,c,h4,h5,h6,h7⟩,h8⟩;have b0:b≠yl:=fun e=>by
   rw[e] at fR;rw[fR] at ay
   cases ay
  have bv:zag Y2 b x:=by rw[bc];exact(zj b0).trans fR
  have bb:x∈ah:=ac.subset (by simp);obtain⟨r1,r2⟩:=hR x bb;have cg:xs.length=n.length:=by
   have:=UY List.length h6;rw[QD,QD] at this;exact this
  have bu:n.length<ah.length:=by
   obtain⟨t,ht⟩:=ac;rw[<- ht];simp only[lap,Qj];omega
  have bo:Bw w Y2:=ab.trans (h8.mono a3);have bh:Bw Y2 Y2.drew:=(UR _ _).drew;have a5:Bw w Y2.drew:=zst bo bh;refine DrawE.ord [4,5] [0,1,2,3,4,5] (by kernel_rfl) ⟨_,zc (za (hdr h4)) (i:=0) rfl,cmo (zrQ (hdr bv) r1 r2 (hG.t32.below a5)) ?_⟩;rintro e Y3 ⟨⟨q1,k1,q2,k2,q3,k3,q4,k4,rfl,o1,o2,o3,o4⟩,a1⟩;refine⟨a1,?_⟩;obtain⟨nx,a9⟩:∃nx:zcO,nx=(zbP x,(q1,k1),(q2,k2),(q3,k3),(q4,k4)):=⟨_,rfl⟩;have br:zgS (zbP x) q1 k1 q2 k2 q3 k3 q4 k4=ji.enc nx:=by rw[a9];rfl
  rw[br];refine⟨⟨by decide,by decide,rfl⟩,ji.enc nx,zar (ji.len nx) rfl,?_⟩;have au:Bw Y3 (Y3.alloc (.cells (ji.enc nx).toArray 145)):=zba _ _;have sa:(Y3.alloc (.cells (ji.enc nx).toArray 145)).heap.size=Y3.heap.size+1:=wz _ _;have s3:Y2.heap.size<=Y3.heap.size:=a1.size;refine⟨au,?_⟩;have aa:Bw Y2 (Y3.alloc (.cells (ji.enc nx).toArray 145)):=(bh.trans a1).trans (au.mono s3);refine qQ (E:=ji) (T:=145) (B:=M) (l:=xs) (news:=[nx]) (cap:=c) (m:=1) Tryz.underlying101 zmL rfl rfl rfl (h5.own.below aa) rfl (qq ji nx) (by omega) (by omega) (by show(xs.length+1)*104<=_;omega) ?_;intro p2 c2 Y5 o5 g5 cj b5;have bl:Y5.heap[M+1]?=some (.cells [.slice p xs.length c].toArray 101 (0,0)):=by
   refine(g5.block (M+1) (hlt (zb aa h4)) fun e=>?_).trans (zb aa h4)
   cases hp:p with
   | none=>rw [hp] at e;simp [Value.ownBlock] at e
   | some a =>
    rw[hp] at e;simp only[Value.ownBlock,KS] at e;obtain⟨_,_,bf,j⟩:=zap h5.own hp;rw[<- e] at j;rw[j] at h4;simp at h4
  refine zn zqi bl (o:=0) (v := .slice p2 (xs++[nx]).length c2) rfl rfl (by show 0<1;decide) rfl fun Z fZ gZ sZ=>?_;have s5:=g5.size;have wr:∀k,k<Y2.heap.size->k≠M+1->(∀a,p=some a->k≠a.block)->Z.heap[k]?=Y2.heap[k]?:=fun k hk a4 b2=>by
   refine(gZ.block k (by omega) (by simpa using a4)).trans ((g5.block k (by omega) fun e=>?_).trans (aa.block k hk))
   cases hp:p with
   | none=>rw [hp] at e;simp [Value.ownBlock] at e
   | some a =>
    rw[hp] at e;simp only[Value.ownBlock,KS] at e;exact b2 a hp e
  have new:∀k,Y2.heap.size<=k->k<Y3.heap.size->Z.heap[k]?=Y3.heap[k]?:=fun k cf bw=>by
   refine(gZ.block k (by omega) (by simp;omega)).trans ((g5.block k (by omega) fun e=>?_).trans (au.block k bw))
   cases hp:p with
   | none=>rw [hp] at e;simp [Value.ownBlock] at e
   | some a =>
    rw[hp] at e;simp only[Value.ownBlock,KS] at e;have:=h3 _ (h5.inF a hp);omega
  have bj:∀{α:Type} {E:Enc α} {T c:Nat} {r:OA} {B:Nat} {ll:List α},T≠145->T≠101->OwnS E T B Y2 r c ll->∀a,r=some a->Z.heap[a.block]?=Y2.heap[a.block]?:=fun{α E T c r B ll} t1 t2 ho a f=>by
   obtain⟨_,b9,bf,j⟩:=zap ho f;refine wr _ b9 (fun e=>?_) (fun a' b3 e=>?_)
   ·rw[e,h4] at j;simp at j;exact t2 j.2.symm
   ·obtain⟨_,_,ca,a7⟩:=zap h5.own b3;rw[e,a7] at j;simp at j;exact t1 j.2.symm
  have ad:∀{α:Type} {E:Enc α} {T c:Nat} {r:OA} {ll:List α},OwnS E T Y2.drew.heap.size Y3 r c ll->RowIn E T W.heap.size (fun k=>F k\/(Y2.heap.size<=k/\k<Z.heap.size)) Z r c ll:=fun{α E T c r ll} ho=>by
   refine⟨OwnS.lower (ho.same fun a f=>?_) h1,fun a f=>?_⟩
   ·have:=zap ho f;exact new _ this.1 this.2.1
   ·have h:=zap ho f;have bz:Y2.heap.size<=a.block:=h.1;exact .inr ⟨bz,by have:=h.2.1;omega⟩
  refine⟨fun k=>F k\/(Y2.heap.size<=k/\k<Z.heap.size),⟨⟨by omega,.inl h2,fun k hk=>?_⟩,⟨xs++[nx],p2,c2,fZ,⟨o5.kept gZ fun g hg e=>?_,fun a f=>?_⟩,?_,fun y hy=>?_⟩,?_⟩,⟨gZ.os.trans (g5.os.trans aa.os),gZ.tape.trans (g5.tape.trans aa.tape),gZ.output.trans (g5.output.trans aa.output),by omega,fun k hk hf=>wr k hk (fun e=>hf (by rw[e];exact h2)) (fun a f e=>hf (by rw[e];exact h5.inF a f)),fun k hk=>hk.imp id fun h=>h.1⟩⟩
  ·rcases hk with hk | hk
   ·have:=h3 k hk;omega
   ·exact hk.2
  ·have:=zap o5 hg;obtain⟨_,_,bf,j⟩:=this;simp only[KS] at e;have j:Y5.heap[g]?=_:=j;rw[<- e,bl] at j;simp at j
  ·rcases b5 a f with h | h
   ·exact .inl (h5.inF a h)
   ·have:=(zap o5 f).2.1;exact .inr ⟨by omega,by omega⟩
  ·rw[QG,h6,QG,a9];rfl
  ·rcases QH.1 hy with hy | hy
   ·have h:=h7 y hy;have st:∀{α:Type} {E:Enc α} {T c:Nat} {r:OA} {ll:List α},T≠145->T≠101->RowIn E T W.heap.size F Y2 r c ll->RowIn E T W.heap.size (fun k=>F k\/(Y2.heap.size<=k/\k<Z.heap.size)) Z r c ll:=fun{α E T c r ll} t1 t2 hh=>⟨hh.own.same fun a f=>bj t1 t2 hh.own a f,fun a f => .inl (hh.inF a f)⟩;exact⟨st (by decide) (by decide) h.1,st (by decide) (by decide) h.2.1,st (by decide) (by decide) h.2.2.1,st (by decide) (by decide) h.2.2.2⟩
   ·simp only[Kv] at hy;subst hy;rw[a9];exact⟨ad o1,ad o2,ad o3,ad o4⟩
  ·refine h8.trans ⟨gZ.os.trans (g5.os.trans aa.os),gZ.tape.trans (g5.tape.trans aa.tape),gZ.output.trans (g5.output.trans aa.output),by omega,fun k hk=>wr k (by omega) (by omega) fun a f=>?_⟩;have:=(zap h5.own f).1;omega
 ·rintro D2 F Y hD ag ⟨⟨h1,h2,h3⟩,⟨xs,p,c,h4,h5,h6,h7⟩,h8⟩ ai;have g1:Y.heap[L+1]?=some (.cells #[.slice none 0 0] 101 (0,0)):=(h8.block (L+1) (by omega)).trans (zb z f1);have g2:Y.heap[L+2]?=some (.cells #[i64 0] 33 (0,0)):=(h8.block (L+2) (by omega)).trans (zb z f2);have gD:Y.heap[D1]?=some (.deferred (some [])):=(h8.block D1 (by omega)).trans (zb z ap);refine⟨_,zc (za h4) (i:=0) rfl,zn zqi g1 (o:=0) (v := .slice p xs.length c) rfl rfl (by show 0<1;decide) rfl fun Z1 bk av bg=>?_⟩;have bt:=(av.block (L+2) (hlt g2) (by simp)).trans g2;refine zn k33 bt (o:=0) (v:=i64 0) rfl rfl (by show 0<1;decide) rfl fun Z2 ao a2 a8=>?_;have ce:M<Y.heap.size:=by omega
  have k2:∀k,k<Y.heap.size->k≠L+1->k≠L+2->Z2.heap[k]?=Y.heap[k]?:=fun k hk n1 n2=>(a2.block k (by rw[bg];exact hk) (by simpa using n2)).trans (av.block k hk (by simpa using n1));have aw:=(k2 D2 (hlt ai) (by omega) (by omega)).trans ai;have bp:=(k2 D1 (hlt gD) (by omega) (by omega)).trans gD;have bm:=(a2.block (L+1) (hlt bk) (by simp)).trans bk;have b4:D1≠D2:=by omega
  refine⟨_,rfl,aw,_,rfl,(zj b4).trans bp,?_⟩;obtain⟨Zf,al⟩:=nm ((Z2.putObj D2 (.deferred none)).putObj D1 (.deferred none));have kf:∀k,k≠D1->k≠D2->Zf.heap[k]?=Z2.heap[k]?:=fun k n1 n2=>by rw[al];exact(zj n1).trans (zj n2)
  refine⟨.slice p xs.length c,?_,i64 0,?_,⟨xs,p,c,rfl,h6,?_,fun x hx=>?_⟩,?_⟩
  ·exact zc (za (by rw[<- al];exact(kf (L+1) (by omega) (by omega)).trans bm)) (i:=0) rfl
  ·exact zc (za (by rw[<- al];exact(kf (L+2) (by omega) (by omega)).trans ao)) (i:=0) rfl
  ·rw[<- al];refine OwnS.lower (h5.own.same fun a f=>?_) a3;have h:=zap h5.own f;have n1:a.block≠D2:=fun e=>by rw[<- e] at ag;exact ag (h5.inF a f)
   exact(kf _ (by omega) n1).trans (k2 _ h.2.1 (by omega) (by omega))
  ·have h:=h7 x hx;have st:∀{α:Type} {E:Enc α} {T c:Nat} {r:OA} {ll:List α},RowIn E T W.heap.size F Y r c ll->OwnS E T w.heap.size Zf r c ll:=fun{α E T c r ll} hh=>by
    refine OwnS.lower (hh.own.same fun a f=>?_) ab.size;have h:=zap hh.own f;have n1:a.block≠D2:=fun e=>by rw[<- e] at ag;exact ag (hh.inF a f)
    exact(kf _ (by omega) n1).trans (k2 _ h.2.1 (by omega) (by omega))
   rw[<- al];exact⟨st h.1,st h.2.1,st h.2.2.1,st h.2.2.2⟩
  ·have ak:Bw w Y:=ab.trans (h8.mono a3);have b1:=(ak.trans (zm av ak.size (by omega))).trans (zm a2 (by rw[bg];exact ak.size) (by omega));exact qh (qh b1 (by omega) _) (by omega) _
 ·rintro D ex n F Y hD ag ac h;exact h.elim
end
def wrE (R:RunD) (i:Nat) (v:UInt8):Bool:=(List.range i).any fun j=>decide ((R.ev j).k=2)&&decide ((R.ev j).v=v)
def wrL (rs:List RunD) (v:UInt8):Bool:=rs.any fun R=>wrE R R.many v
theorem zj4(rs:List RunD):jH rs=qa.filter (wrL rs):=rfl
def wrC (f:UInt8->Bool):List Value:=seg 256 fun i => .bool (f (UInt8.ofNat i))
theorem zj5(f:UInt8->Bool){i:Nat}(h:i<256):(wrC f)[i]?=some (.bool (f (UInt8.ofNat i))):=jV _ h
theorem zpx(f:UInt8->Bool)(x:UInt8):(wrC f).set x.toNat (.bool true)=wrC fun v=>f v||decide (x=v):=by
 have b:=x.toNat_lt;apply KI;intro j;by_cases a:j<256
 ·rw[zj5 _ a];by_cases e:x.toNat=j
  ·subst e;rw[Jz (by unfold wrC;rw[zy];exact b),UInt8.ofNat_toNat,Uh rfl,Bool.or_true]
  ·rw[JQ e,zj5 _ a];have:x≠UInt8.ofNat j:=fun h=>e (by rw[h,KB];omega);rw[QX this,Um]
 ·rw[JE (by unfold wrC;rw[QF,zy];omega),JE (by unfold wrC;rw[zy];omega)]
theorem zlf(f:UInt8->Bool):(wrC f).length=256:=zy _ _
theorem zno(rs:List RunD)(R:RunD)(v:UInt8):wrL (rs++[R]) v=(wrL rs v||wrE R R.many v):=by
 unfold wrL;rw[List.any_append];simp
theorem znp(R:RunD)(i:Nat)(v:UInt8):wrE R (i+1) v=(wrE R i v||(decide ((R.ev i).k=2)&&decide ((R.ev i).v=v))):=by
 unfold wrE;rw[QL,List.any_append];simp
theorem zkL(p:UInt8->Bool)(x:UInt8):[x].filter p=if p x=true then[x] else[]:=by
 rw[Qe,List.filter_nil]
theorem zo3{k:Nat}(h:k<256):∃hl:k<qa.length,qa[k]=UInt8.ofNat k:=by
 have hl:qa.length=256:=by unfold qa;rw[QD,KN]
 refine⟨by rw[hl];exact h,?_⟩;simp[qa]
theorem ztp:List.replicate 256 (Value.bool false)=wrC fun _=>false:=by kernel_rfl
section
variable{l:List InsD}{dom:List UInt8}{q p:OA}{cap cd:Nat}{w:Wd}
theorem znm(hl:SlR zS w q l)(hp:SlR zN w p dom)(h12:l.length<=12)(hx:∀x∈l,zc7 x)(hR:∀R∈jT l dom,R.many<=24)(hm:(jT l dom).length<=4096)(hqb:∀a,q=some a->a.block<w.heap.size)(hpb:∀a,p=some a->a.block<w.heap.size)(hdl:dom.length<=1000) :
  Calls PG 63 #[.slice q l.length cap,.slice p dom.length cd] w fun e w'=>(∃(p':OA) (c':Nat),e = .returned (.tuple #[.slice p' (jH (jT l dom)).length c',.bool true])/\OwnS zN 5 w.heap.size w' p' c' (jH (jT l dom)))/\Bw w w':=by
 refine qg 55 [.slice q l.length cap,.slice p dom.length cd] (.c .p (.c .p (.c .p (.c .p (.s .p (.c .p .p)))))) Tryz.func63 ?_;obtain⟨L,hL⟩:=nm (w.heap.size);refine⟨Unit,fun _=>⟨[(0,.slice q l.length cap),(1,.slice p dom.length cd),(4,AtR L),(5,AtR (L+1))],[]⟩,fun _ X=>X.heap[L]?=some (.cells #[.slice none 0 0] 23 (0,0))/\X.heap[L+1]?=some (.cells #[.bool false] 4 (0,0))/\X.heap.size=L+2/\Bw w X,?_,?_⟩
 ·have s1:=wz w (.cells #[.slice none 0 0] 23);have h2:=zw (w.alloc (.cells #[.slice none 0 0] 23)) (.cells #[.bool false] 4);have s2:=wz (w.alloc (.cells #[.slice none 0 0] 23)) (.cells #[.bool false] 4);rw[s1] at h2 s2;refine⟨(),⟨.cons rfl (.cons rfl (.cons (by rw[hL];rfl) (.cons (by rw[hL,<- s1];rfl) .nil))),rfl⟩,?_,?_,?_,?_⟩
  ·rw[hL];exact z6 _ (zw w _)
  ·rw[hL];exact h2
  ·rw[hL];exact s2
  ·exact((zba w _)).alloc (by simp) _
 rintro _ X ⟨f0,f1,sX,hbX⟩;refine⟨Unit,fun _=>⟨[(0,.slice q l.length cap),(1,.slice p dom.length cd),(4,AtR L),(5,AtR (L+1)),(6,AtR (L+2))],[]⟩,fun _ Y=>Y.heap[L+2]?=some (.cells (wrC fun _=>false).toArray 198 (0,0))/\Y.heap.size=L+3/\Bw X Y,?_,?_⟩
 ·refine⟨(),⟨.cons rfl (.cons rfl (.cons rfl (.cons rfl (.cons (by rw[<- sX];rfl) .nil)))),rfl⟩,?_,?_,?_⟩
  ·rw[<- sX,<- ztp];exact zw X _
  ·have:=wz X (.cells (List.replicate 256 (Value.bool false)).toArray 198);rw[sX] at this;exact this
  ·exact(zba X _)
 rintro _ Y ⟨f2,sY,hbY⟩;refine⟨Unit,fun _=>⟨[(0,.slice q l.length cap),(1,.slice p dom.length cd),(4,AtR L),(5,AtR (L+1)),(6,AtR (L+2)),(7,AtR (L+3))],[]⟩,fun _ Z=>Z.heap[L+3]?=some (.cells [i64 (0:Nat)].toArray 3 (0,0))/\Z.heap.size=L+4/\Bw Y Z,?_,?_⟩
 ·refine zr (X:=Y) (v:=i64 0) k3 rfl rfl rfl fun Z hbZ fZ sZ=>?_;rw[sY] at fZ sZ;exact⟨(),⟨.cons rfl (.cons rfl (.cons rfl (.cons rfl (.cons rfl (.cons (by rw[<- sY];rfl) .nil))))),rfl⟩,fZ,sZ,hbZ⟩
 rintro _ V ⟨f3,sV,hbV⟩;have hXV:Bw X V:=zst hbY hbV;have hwV:=zst hbX hXV;have f0:=zb hXV f0;have f1:=zb hXV f1;have f2:=zb hbV f2;clear hbX hbY hbV hXV;obtain⟨xs,hxs⟩:=nm (jT l dom);rw[<- hxs] at hR hm ⊢;refine⟨Nat,fun D1=>⟨[(4,AtR L),(5,AtR (L+1)),(6,AtR (L+2))],[{ target := .collected D1,args := #[] }]⟩,fun D1 U=>U.heap[L+2]?=some (.cells (wrC (wrL xs)).toArray 198 (0,0))/\U.heap[D1]?=some (.deferred (some []))/\L+2<D1/\Below (L+2) V U,?_,?_⟩
 ·refine cmo zii ?_;rintro e W ⟨rfl,fi,fd,sW,hbW⟩;have hwW:=zst hwV hbW;have hI:=zkN (q:=q) (p:=p) (hl.below hwW) (hp.below hwW) fi fd (fun a ha=>by have:=hqb a ha;have:=hwW.size;omega) (fun a ha=>by have:=hpb a ha;have:=hwW.size;omega) h12 hx hdl;rw[<- hxs] at hI;obtain⟨J,hJ⟩:∃J:List RunD->Wd->Prop,J=fun pre Y=>W.heap.size<=Y.heap.size/\Y.heap[L+2]?=some (.cells (wrC (wrL pre)).toArray 198 (0,0))/\Y.heap[L+3]?=some (.cells [i64 pre.length].toArray 3 (0,0))/\Below (L+2) W Y:=⟨_,rfl⟩;obtain⟨F0,hF0⟩:∃F0:Nat->Prop,F0=fun k=>k=L+2\/k=L+3:=⟨_,rfl⟩;refine zcw (zes _) rfl (lb := #[AtR V.heap.size,AtR (V.heap.size+1)]) rfl rfl hI (UN _) (fun k hk=>⟨?_,rfl⟩) (fun pre vs W ⟨R,b,_,h,_⟩=>by rw[h];rfl) (by decide)
   F0 (fun pre F Y=>F=F0/\J pre Y) (fun _ _ _ _=>False) (fun k hk=>?_)
   (joG (F:=F0) (J:=J) (fun k h=>by rw[hF0] at h;omega) (fun s A h=>by rw[hJ] at h;exact h.1) (fun pre A B h hb=>by
    rw[hJ] at h ⊢;obtain⟨h1,h2,h3,h4⟩:=h;exact⟨UC h1 hb.size,jO hb (by omega) h2,jO hb (by omega) h3,h4.trans (hb.mono (by omega))⟩))
   (fun ex=>⟨fun _ _ _ _ h=>h.elim,fun _ _ _ _ h=>h.elim⟩) ⟨rfl,by rw[hJ];exact⟨UN _,zb hbW f2,zb hbW f3,UR _ _⟩⟩ ?_ ?_ ?_
  ·rcases hk with((rfl | rfl) | ⟨a,ha,rfl⟩ | ⟨a,ha,rfl⟩) | h
   ·omega
   ·omega
   ·have:=hqb a ha;have:=hwW.size;omega
   ·have:=hpb a ha;have:=hwW.size;omega
   ·exact h.elim
  ·rw[hF0];rcases hk with(rfl | rfl) | ⟨a,ha,rfl⟩ | ⟨a,ha,rfl⟩
   ·omega
   ·omega
   ·have:=hqb a ha;omega
   ·have:=hpb a ha;omega
  ·rintro yl pre x vs F Y hyl hpre hJ0 ⟨R,b,hlast,rfl,fR⟩ hfy ⟨lo,hlo⟩;have hxR:x=R:=by simpa using hlast
   subst hxR;refine⟨rfl,F,KeepsG.refl _ _,hJ0,?_⟩;rintro o Y2 hY2 ⟨rfl,hJ2⟩;rw[hJ] at hJ2;obtain⟨h1,h2,h3,h4⟩:=hJ2;have hbl:b≠yl:=fun e=>by
    rw[e] at fR;rw[fR] at hlo
    cases hlo
   have fR2:zag Y2 b x:=by rw[hY2];exact(zj hbl).trans fR
   have r1:=hR x (hpre.subset (by simp));have hpl:pre.length<xs.length:=by
    obtain⟨t,ht⟩:=hpre;rw[<- ht];simp only[lap,Qj];omega
   refine⟨_,zc (za h3) (i:=0) rfl,?_⟩;refine brN (QX (by omega)) ?_;refine⟨_,zc (za h3) (i:=0) rfl,?_⟩;refine⟨((pre.length+1:Nat):Int),(zg (by omega)).trans (by omega),?_⟩;refine zn k3 h3 (o:=0) (v:=i64 (pre.length+1:Nat)) rfl rfl (by show 0<1;decide) rfl fun Z fZ gZ sZ=>?_;have fRZ:zag Z b x:=(gZ.block b (hlt fR2) (fun e=>by
    have e:b=L+3:=(by simpa using e);rw[e] at fR2;rw[fR2] at h3;simp at h3)).trans fR2
   have f2Z:=(gZ.block (L+2) (hlt h2) (by simp)).trans h2;have kZ:KeepsG F F Y2 Z:=KeepsG.grown gZ (by rw[hF0];exact .inr rfl);have bZ:Below (L+2) W Z:=h4.trans (zm gZ (by omega) (by omega));refine DrawE.ord [] [0,1,2,3,4,5,6,7,8,9] (by kernel_rfl) ?_;have hdZ:Bw Z Z.drew:=(UR _ _).drew;refine⟨_,zc (za (hdr fRZ)) (i:=18) (za6 x),?_⟩;refine⟨x.many,rfl,r1,?_⟩;have ecut:z7 (some ⟨b,0+19,none⟩) 24 0 7=some ⟨b,19,none⟩:=by rw[js,UH]
   refine⟨Nat,fun i=>⟨[(6,AtR (L+2)),(7,AtR (L+3)),(29,.slice (some ⟨b,19,none⟩) (x.many-0) (24-0)),(30,i64 (x.many:Nat)),(31,i64 (i:Nat))],[]⟩,
    fun i T=>i<=x.many/\T.heap[L+2]?=some (.cells (wrC fun v=>wrL pre v||wrE x i v).toArray 198 (0,0))/\zag T b x/\T.heap[L+3]?=some (.cells [i64 (pre.length+1:Nat)].toArray 3 (0,0))/\KeepsG F F Y2 T/\Below (L+2) W T,fun i=>x.many-i,0,
    ⟨.cons rfl (.cons rfl (.cons (by rw[<- ecut];rfl) (.cons rfl (.cons rfl .nil)))),rfl⟩,⟨UP _,?_,hdr fRZ,hdr fZ,kZ.trans (KeepsG.below hdZ fun k h => .inl h),bZ.drew⟩,?_⟩
   ·have e:(fun v=>wrL pre v||wrE x 0 v)=wrL pre:=by
     funext v;show(wrL pre v||false)=_;rw[Um]
    rw[e];exact f2Z
   rintro i T ⟨hi,t2,tR,t3,kT,bT⟩;have hTs:=kT.size;refine biE (fun hc=>?_) fun hc=>?_
   ·have hc:(i:Int)<(x.many:Int):=dT hc;have him:i<x.many:=(by omega);refine⟨i,rfl,him,?_⟩;have hev:zF T ⟨b,19+i*7,none⟩ (evE.enc (x.ev i)):=by
     have:=zI (n:=i*7) (m:=7) (zlj tR);rw[zoS x.ev (show i<24 by omega)] at this;exact this
    refine⟨evE.enc (x.ev i),rfl,hev,hlt tR,?_⟩;refine zr (X:=T) (v := .agg (evE.enc (x.ev i)).toArray) k80 rfl rfl rfl fun T2 hb2 fT2 sT2=>?_;have k2:KeepsG F F Y2 T2:=kT.trans (KeepsG.below hb2 fun k h => .inl h);have b2:Below (L+2) W T2:=bT.trans (hb2.mono (by omega));have n1:=znp x i;refine⟨_,zc (za fT2) (i:=1) rfl,?_⟩;have u2:=zb hb2 t2;have uR:=zb hb2 tR;have u3:=zb hb2 t3;refine biE (fun hk=>?_) fun hk=>?_
    ·have hk:(x.ev i).k=2:=qm.1 (dT hk);refine⟨_,zc (za fT2) (i:=3) rfl,?_⟩;refine⟨((x.ev i).v).toNat,rfl,((x.ev i).v).toNat_lt,?_⟩;refine zn k4 u2 (o:=0+((x.ev i).v).toNat*1) (v := .bool true) rfl rfl (by rw[zlf];have:=((x.ev i).v).toNat_lt;omega) rfl fun T3 fT3 gT3 sT3=>?_;rw[UH,UO,zpx] at fT3;have k3:KeepsG F F Y2 T3:=k2.trans (KeepsG.grown gT3 (by rw[hF0];exact .inl rfl));have hT2s:=k2.size;refine nxI (by omega) ?_;refine⟨i+1,(cvE rfl rfl),⟨him,?_,(gT3.block b (hlt uR) (fun e=>by
      have e:b=L+2:=(by simpa using e);rw[e] at uR;rw[uR] at u2;simp at u2)).trans uR,(gT3.block (L+3) (hlt u3) (by simp)).trans u3,k3,b2.trans (zm gT3 (by omega) (UN _))⟩,zdc (by omega)⟩
     have e:(fun v=>wrL pre v||wrE x (i+1) v)=fun v=>(wrL pre v||wrE x i v)||decide ((x.ev i).v=v):=by
      funext v;rw[n1,Uh hk,Un,Bool.or_assoc]
     rw[e];exact fT3
    ·have hk:¬(x.ev i).k=2:=fun e=>(dF hk) (by rw[e];rfl);refine nxI (by omega) ?_;refine⟨i+1,(cvE rfl rfl),⟨him,?_,uR,u3,k2,b2⟩,zdc (by omega)⟩;have e:(fun v=>wrL pre v||wrE x (i+1) v)=fun v=>(wrL pre v||wrE x i v):=by
      funext v;rw[n1,QX hk,QZ,Um]
     rw[e];exact u2
   ·have hc:¬(i:Int)<(x.many:Int):=dF hc;obtain rfl:i=x.many:=(by omega);refine⟨F,⟨rfl,?_⟩,kT⟩;rw[hJ];refine⟨by omega,?_,by rw[lap];exact t3,bT⟩;have e:wrL (pre++[x])=fun v=>wrL pre v||wrE x x.many v:=by
     funext v;exact zno pre x v
    rw[e];exact t2
  ·rintro D1 F Y hD hfD ⟨rfl,hj⟩ hdef;rw[hJ] at hj;obtain⟨h1,h2,h3,h4⟩:=hj;exact⟨D1,(cvE rfl rfl),h2,hdef,by omega,(hbW.mono (by omega)).trans h4⟩
  ·rintro D ex pre F Y hD hfD hpre h;exact h.elim
 clear f2 f3;rintro D1 U ⟨f2,fD1,hLD,bU⟩;have f0:U.heap[L]?=some (.cells #[.slice none 0 0] 23 (0,0)):=(bU.block L (by omega)).trans f0;have f1:U.heap[L+1]?=some (.cells #[.bool false] 4 (0,0)):=(bU.block (L+1) (by omega)).trans f1;have hwU:Bw w U:=hwV.trans (bU.mono (by omega));have sU:=hlt f2;have sD:=hlt fD1;clear bU hwV;refine⟨List UInt8×OA×Nat,fun s=>⟨[(4,AtR L),(5,AtR (L+1)),(11,.slice s.2.1 s.1.length s.2.2)],[{ target := .collected D1,args := #[] }]⟩,fun s Z=>s.1=jH xs/\OwnS zN 5 U.heap.size Z s.2.1 s.2.2 s.1/\Bw U Z,?_,?_⟩
 ·refine⟨wrC (wrL xs),zlf _,za f2,hlt f2,?_⟩;refine⟨Nat×OA×Nat,fun s=>⟨[(4,AtR L),(5,AtR (L+1)),(11,.slice s.2.1 ((qa.take s.1).filter (wrL xs)).length s.2.2),(42,.agg (wrC (wrL xs)).toArray),(43,i64 (s.1:Nat))],[{ target := .collected D1,args := #[] }]⟩,
   fun s Z=>s.1<=256/\OwnS zN 5 U.heap.size Z s.2.1 s.2.2 ((qa.take s.1).filter (wrL xs))/\Bw U Z,fun s=>256-s.1,(0,none,0),
   (cvE rfl rfl),⟨UP _,OwnS.nil,UR _ _⟩,?_⟩
  rintro⟨k,r,c⟩ Z ⟨hk,ho,hbZ⟩;dsimp only at hk ho ⊢;have hZs:=hbZ.size;refine biE (fun hc=>?_) fun hc=>?_
  ·have hc:(k:Int)<256:=dT hc;have hk2:k<256:=by omega
   have tk:qa.take (k+1)=qa.take k++[UInt8.ofNat k]:=by
    obtain⟨hlb,hbk⟩:=zo3 hk2;rw[tsg hlb,hbk]
   have fl:(qa.take (k+1)).filter (wrL xs)=(qa.take k).filter (wrL xs)++(if wrL xs (UInt8.ofNat k)=true then[UInt8.ofNat k] else[]):=by
    rw[tk,Kq,zkL]
   have hfl:((qa.take k).filter (wrL xs)).length<=256:=by
    have h1:=JH (wrL xs) (qa.take k);rw[Ql] at h1;omega
   refine⟨k,rfl,hk2,?_⟩;refine zbb (by rw[UO];exact zj5 _ hk2) ?_;refine biE (fun hv=>?_) fun hv=>?_
   ·rw[Gd hv] at fl;refine⟨_,w8N k,?_⟩;refine⟨⟨by decide,by decide,rfl⟩,zN.enc (UInt8.ofNat k),rfl,?_⟩;have hba:Bw Z (Z.alloc (.cells (zN.enc (UInt8.ofNat k)).toArray 5)):=zba _ _;refine qQ (E:=zN) (T:=5) (B:=U.heap.size) (l:=(qa.take k).filter (wrL xs)) (news:=[UInt8.ofNat k]) (cap:=c) (m:=1) Tryz.underlying23 k5 rfl rfl rfl (ho.below hba) rfl (qq zN (UInt8.ofNat k)) (by have:=hba.size;omega) (by omega) (by show(((qa.take k).filter (wrL xs)).length+1)*1<=_;omega) ?_;intro p2 c2 T oT gT hbT hat;refine nxI (by omega) ?_;refine⟨(k+1,p2,c2),⟨.cons rfl (.cons rfl (.cons (by rw[fl];rfl) (.cons rfl (.cons rfl .nil)))),rfl⟩,⟨hk2,by show OwnS zN _ _ _ _ _ ((qa.take (k+1)).filter (wrL xs));rw[fl];exact oT,(hbZ.trans (hba.mono hZs)).trans hbT⟩,zdc (by omega)⟩
   ·have hv:wrL xs (UInt8.ofNat k)=false:=hv;rw[hv,Gc Ko,QA] at fl;refine nxI (by omega) ?_;exact⟨(k+1,r,c),⟨.cons rfl (.cons rfl (.cons (by rw[fl];rfl) (.cons rfl (.cons rfl .nil)))),rfl⟩,⟨hk2,by show OwnS zN _ _ _ _ _ ((qa.take (k+1)).filter (wrL xs));rw[fl];exact ho,hbZ⟩,zdc (by omega)⟩
  ·have hc:¬(k:Int)<256:=dF hc;obtain rfl:k=256:=by omega
   have e:(qa.take 256).filter (wrL xs)=jH xs:=by
    rw[zj4,JB (by unfold qa;rw[QD,KN];exact UN _)]
   rw[e] at ho;exact⟨(jH xs,r,c),⟨.cons rfl (.cons rfl (.cons (by rw[e];rfl) .nil)),rfl⟩,rfl,ho,hbZ⟩
 rintro⟨ys,r,c⟩ Z ⟨rfl,ho,hbZ⟩;dsimp only at ho ⊢;have hZs:=hbZ.size;have g0:=zb hbZ f0;have g1:=zb hbZ f1;have gD:=zb hbZ fD1;refine zn k23 g0 (o:=0) (v := .slice r (jH xs).length c) rfl rfl (by show 0<1;decide) rfl fun Z1 fZ1 gZ1 sZ1=>?_;have g1':=(gZ1.block (L+1) (hlt g1) (by simp)).trans g1;refine zn k4 g1' (o:=0) (v := .bool true) rfl rfl (by show 0<1;decide) rfl fun Z2 fZ2 gZ2 sZ2=>?_;have k2:∀k,k<Z.heap.size->k≠L->k≠L+1->Z2.heap[k]?=Z.heap[k]?:=fun k hk n1 n2=>(gZ2.block k (by rw[sZ1];exact hk) (by simpa using n2)).trans (gZ1.block k hk (by simpa using n1));have fZ1':=(gZ2.block L (hlt fZ1) (by simp)).trans fZ1;refine⟨_,rfl,(k2 D1 (hlt gD) (by omega) (by omega)).trans gD,?_⟩;refine⟨.slice r (jH xs).length c,?_,.bool true,?_,⟨r,c,rfl,?_⟩,?_⟩
 ·exact zc (za ((zj (by omega)).trans fZ1')) (i:=0) rfl
 ·exact zc (za ((zj (by omega)).trans fZ2)) (i:=0) rfl
 ·refine OwnS.lower (ho.same fun a ha=>?_) hwU.size;have h:=zap ho ha;exact(zj (by omega)).trans (k2 _ h.2.1 (by omega) (by omega))
 ·have hwZ:=zst hwU hbZ;exact qh ((hwZ.trans (zm gZ1 hwZ.size (by omega))).trans (zm gZ2 (by rw[sZ1];exact hwZ.size) (by omega))) (by omega) _
end
theorem zcU{a b:Nat}:decide ((a:Int)<(b:Int))=decide (a<b):=by rw[Qw];omega
def ja (c:Cnd):Bool:=decide (c.thread=0)&&(decide (c.n=0)&&decide (c.val=0))
theorem zad{threads locs d:Nat}(c:Cnd):jU threads locs (d+1) c=(if c.kind=0 then ja c&&decide (c.kids.length=0) else
  if c.kind=1 then decide (c.thread.toNat<threads)&&(decide (c.n.toNat<8)&&decide (c.kids.length=0)) else
  if c.kind=2 then decide (c.n.toNat<locs)&&(decide (c.thread=0)&&decide (c.kids.length=0)) else
  if c.kind=3\/c.kind=4 then ja c&&(decide (2<=c.kids.length)&&c.kids.all (jU threads locs d)) else
  if c.kind=5 then ja c&&(decide (c.kids.length=1)&&c.kids.all (jU threads locs d)) else false):=by
 obtain⟨k,t,n,v,kids⟩:=c;rfl
def zrz (c:Cnd):Prop:=(c.kind=3\/c.kind=4)/\ja c=true/\2<=c.kids.length\/c.kind=5/\ja c=true/\c.kids.length=1
theorem zkS{threads locs d:Nat}{c:Cnd}(h:zrz c):jU threads locs (d+1) c=c.kids.all (jU threads locs d):=by
 rw[zad];rcases h with⟨a,e,b⟩ | ⟨a,e,b⟩
 ·rw[Gc (by rcases a with h | h <;> rw[h] <;> decide),Gc (by rcases a with h | h <;> rw[h] <;> decide),Gc (by rcases a with h | h <;> rw[h] <;> decide),Gd a,e,Uh b];rfl
 ·rw[Gc (by rw[a];decide),Gc (by rw[a];decide),Gc (by rw[a];decide),Gc (by rw[a];decide),Gd a,e,Uh b];rfl
theorem zjG{B threads locs:Nat}{w:Wd}(hB:B<=w.heap.size):∀(d:Nat) (c:Cnd) (b o:Nat) (p:OA) (cap:Nat),d<=1000->b<B->zF w ⟨b,o,none⟩ (zu c p cap)->KidsV B w p c.kids ->
  Calls PG 174 #[.pointer (some ⟨b,o,none⟩),i64 threads,i64 locs,i64 d] w fun e w'=>e = .returned (.bool (jU threads locs d c))/\w=w':=by
 intro d
 induction d with
 | zero =>
  intro c b o p cap _ hb l hk;refine zC 141 [.pointer (some ⟨b,o,none⟩),i64 threads,i64 locs,i64 0] Tryz.func174 ?_;exact brT ⟨rfl,rfl⟩
 | succ d ih =>
  intro c b o p cap hd hb l hk;refine qg 141 [.pointer (some ⟨b,o,none⟩),i64 threads,i64 locs,i64 (d+1:Nat)] (.s .p (.s .p (.c .p (.c .p .p)))) Tryz.func174 ?_;have ah:b<w.heap.size:=nL hb hB;refine biE (fun h=>?_) fun h=>?_
  ·have h:((d+1:Nat):Int)=0:=dT h;omega
  clear h;refine⟨Unit,fun _=>⟨[(0,.pointer (some ⟨b,o,none⟩)),(1,i64 threads),(2,i64 locs),(3,i64 (d+1:Nat)),(9,.bool (ja c))],[]⟩,fun _ X=>w=X,?_,?_⟩
  ·have aa:∀{v:Bool},v=ja c->some (Value.bool v)=some (.bool (ja c)):=fun h=>by rw[h]
   refine⟨_,zc l (i:=1) rfl,biE (fun j=>?_) fun j=>?_⟩
   ·have j:decide (c.thread=0)=true:=(u8d c.thread 0).symm.trans j;refine⟨_,zc l (i:=2) rfl,biE (fun f=>?_) fun f=>?_⟩
    ·have f:decide (c.n=0)=true:=(u8d c.n 0).symm.trans f;exact⟨_,zc l (i:=3) rfl,(),⟨.cons rfl (.cons rfl (.cons rfl (.cons rfl (.cons (aa (by unfold ja;rw[j,f];exact u8d c.val 0)) .nil)))),rfl⟩,rfl⟩
    ·have f:decide (c.n=0)=false:=(u8d c.n 0).symm.trans f;exact⟨(),⟨.cons rfl (.cons rfl (.cons rfl (.cons rfl (.cons (aa (by unfold ja;rw[j,f];rfl)) .nil)))),rfl⟩,rfl⟩
   ·have j:decide (c.thread=0)=false:=(u8d c.thread 0).symm.trans j;exact brF ⟨(),⟨.cons rfl (.cons rfl (.cons rfl (.cons rfl (.cons (aa (by unfold ja;rw[j];rfl)) .nil)))),rfl⟩,rfl⟩
  rintro _ _ rfl;refine⟨Unit,fun _=>⟨[(0,.pointer (some ⟨b,o,none⟩)),(1,i64 threads),(2,i64 locs),(3,i64 (d+1:Nat))],[]⟩,fun _ X=>zrz c/\w=X,?_,?_⟩
  ·have ag:c.kids.length<=140737488351232:=by have:=hk.inv.1;omega
   refine⟨_,zc l (i:=0) rfl,biE (fun r=>?_) fun r=>?_⟩
   ·have r:c.kind=0:=dT ((u8d c.kind 0).symm.trans r);have e:jU threads locs (d+1) c=(ja c&&decide (c.kids.length=0)):=(by rw[zad,Gd r]);rw[e];refine biE (fun h=>?_) fun h=>?_
    ·have h:ja c=true:=h;exact⟨_,zc l (i:=4) rfl,rb (by rw[h,Un];exact zbs),rfl⟩
    ·have h:ja c=false:=h;exact⟨rb (by rw[h];rfl),rfl⟩
   have r:¬c.kind=0:=dF ((u8d c.kind 0).symm.trans r);refine biE (fun j=>?_) fun j=>?_
   ·have j:c.kind=1:=dT ((u8d c.kind 1).symm.trans j);have e:jU threads locs (d+1) c=(decide (c.thread.toNat<threads)&&(decide (c.n.toNat<8)&&decide (c.kids.length=0))):=(by rw[zad,Gc r,Gd j]);rw[e];refine⟨_,zc l (i:=1) rfl,_,qu _,biE (fun h=>?_) fun h=>?_⟩
    ·have h:decide (c.thread.toNat<threads)=true:=zcU.symm.trans h;refine⟨_,zc l (i:=2) rfl,biE (fun f=>?_) fun f=>?_⟩
     ·have f:decide (c.n.toNat<8)=true:=(zcU (b:=8)).symm.trans f;exact⟨_,zc l (i:=4) rfl,rb (by rw[h,f];exact zbs),rfl⟩
     ·have f:decide (c.n.toNat<8)=false:=(zcU (b:=8)).symm.trans f;exact⟨rb (by rw[h,f];rfl),rfl⟩
    ·have h:decide (c.thread.toNat<threads)=false:=zcU.symm.trans h;exact brF ⟨rb (by rw[h];rfl),rfl⟩
   have j:¬c.kind=1:=dF ((u8d c.kind 1).symm.trans j);refine biE (fun f=>?_) fun f=>?_
   ·have f:c.kind=2:=dT ((u8d c.kind 2).symm.trans f);have e:jU threads locs (d+1) c=(decide (c.n.toNat<locs)&&(decide (c.thread=0)&&decide (c.kids.length=0))):=(by rw[zad,Gc r,Gc j,Gd f]);rw[e];refine⟨_,zc l (i:=2) rfl,_,qu _,biE (fun h=>?_) fun h=>?_⟩
    ·have h:decide (c.n.toNat<locs)=true:=zcU.symm.trans h;refine⟨_,zc l (i:=1) rfl,biE (fun g=>?_) fun g=>?_⟩
     ·have g:decide (c.thread=0)=true:=(u8d c.thread 0).symm.trans g;exact⟨_,zc l (i:=4) rfl,rb (by rw[h,g];exact zbs),rfl⟩
     ·have g:decide (c.thread=0)=false:=(u8d c.thread 0).symm.trans g;exact⟨rb (by rw[h,g];rfl),rfl⟩
    ·have h:decide (c.n.toNat<locs)=false:=zcU.symm.trans h;exact brF ⟨rb (by rw[h];rfl),rfl⟩
   have f:¬c.kind=2:=dF ((u8d c.kind 2).symm.trans f);have u:∀(z:c.kind=3\/c.kind=4),jU threads locs (d+1) c=(ja c&&(decide (2<=c.kids.length)&&c.kids.all (jU threads locs d))):=fun z=>by
    rw[zad,Gc r,Gc j,Gc f,Gd z]
   refine biE (fun g=>?_) fun g=>?_
   ·have ae:decide ((c.kind.toNat:Int)=3)=true:=g;have g:c.kind=3\/c.kind=4 := .inl (dT ((u8d c.kind 3).symm.trans g));refine brE ae (biE (fun h=>?_) fun h=>?_)
    ·have h:(!ja c)=true:=h;have h:ja c=false:=(by simpa using h);exact brT ⟨rb (by rw[u g,h];rfl),rfl⟩
    ·have h:(!ja c)=false:=h;have h:ja c=true:=(by simpa using h);refine⟨_,zc l (i:=4) rfl,biE (fun a=>?_) fun a=>?_⟩
     ·have a:(c.kids.length:Int)<2:=dT a;exact⟨rb (by rw[u g,QX (by omega)];simp),rfl⟩
     ·have a:¬(c.kids.length:Int)<2:=dF a;exact⟨(),(cvE rfl rfl),.inl ⟨g,h,by omega⟩,rfl⟩
   have g:¬c.kind=3:=dF ((u8d c.kind 3).symm.trans g);refine biE (fun a=>?_) fun a=>?_
   ·have g:c.kind=3\/c.kind=4 := .inr (dT ((u8d c.kind 4).symm.trans a));refine biE (fun h=>?_) fun h=>?_
    ·have h:(!ja c)=true:=h;have h:ja c=false:=(by simpa using h);exact brT ⟨rb (by rw[u g,h];rfl),rfl⟩
    ·have h:(!ja c)=false:=h;have h:ja c=true:=(by simpa using h);refine⟨_,zc l (i:=4) rfl,biE (fun a=>?_) fun a=>?_⟩
     ·have a:(c.kids.length:Int)<2:=dT a;exact⟨rb (by rw[u g,QX (by omega)];simp),rfl⟩
     ·have a:¬(c.kids.length:Int)<2:=dF a;exact⟨(),(cvE rfl rfl),.inl ⟨g,h,by omega⟩,rfl⟩
   have a:¬c.kind=4:=dF ((u8d c.kind 4).symm.trans a);have ab:¬(c.kind=3\/c.kind=4):=fun h=>h.elim g a;refine biE (fun h5=>?_) fun h5=>?_
   ·have h5:c.kind=5:=dT ((u8d c.kind 5).symm.trans h5);have e:jU threads locs (d+1) c=(ja c&&(decide (c.kids.length=1)&&c.kids.all (jU threads locs d))):=(by rw[zad,Gc r,Gc j,Gc f,Gc ab,Gd h5]);refine biE (fun h=>?_) fun h=>?_
    ·have h:(!ja c)=true:=h;have h:ja c=false:=(by simpa using h);exact brT ⟨rb (by rw[e,h];rfl),rfl⟩
    ·have h:(!ja c)=false:=h;have h:ja c=true:=(by simpa using h);refine⟨_,zc l (i:=4) rfl,biE (fun a=>?_) fun a=>?_⟩
     ·have a:(!decide ((c.kids.length:Int)=1))=true:=a;have a:¬(c.kids.length:Int)=1:=(by simpa using a);exact⟨rb (by rw[e,QX (by omega)];simp),rfl⟩
     ·have a:(!decide ((c.kids.length:Int)=1))=false:=a;have a:(c.kids.length:Int)=1:=(by simpa using a);exact⟨(),(cvE rfl rfl),.inr ⟨h5,h,by omega⟩,rfl⟩
   have h5:¬c.kind=5:=dF ((u8d c.kind 5).symm.trans h5);exact⟨rb (by rw[zad,Gc r,Gc j,Gc f,Gc ab,Gc h5]),rfl⟩
  rintro _ _ ⟨ha,rfl⟩;rw[zkS ha];refine⟨_,zc l (i:=4) rfl,?_⟩;obtain⟨hn,b1,o1,hp,ac⟩:=hk.inv;refine⟨Nat,fun k=>⟨[(0,.pointer (some ⟨b,o,none⟩)),(1,i64 threads),(2,i64 locs),(3,i64 (d+1:Nat)),(124,i64 c.kids.length),(125,i64 (k:Nat))],[]⟩,fun k X=>k<=c.kids.length/\(∀x∈c.kids.take k,jU threads locs d x=true)/\w=X,fun k=>c.kids.length-k,0,
   (cvE rfl rfl),⟨UP _,by simp,rfl⟩,?_⟩
  rintro k _ ⟨hk,m,rfl⟩;dsimp only at hk m ⊢;refine biE (fun t=>?_) fun t=>?_
  ·have t:(k:Int)<(c.kids.length:Int):=dT t;have y:k<c.kids.length:=by omega
   rcases hp with hp | rfl
   ·omega
   obtain⟨q,cq,ad,hq,af⟩:=ac k y;refine⟨_,zc l (i:=4) rfl,k,rfl,y,(d:Int),(zg (by omega)).trans (by omega),cmo (ih c.kids[k] b1 (o1+k*5) q cq (by omega) ad hq af) ?_⟩;rintro e _ ⟨rfl,rfl⟩;refine biE (fun h=>?_) fun h=>?_
   ·have h:(!jU threads locs d c.kids[k])=true:=h;refine⟨rb ?_,rfl⟩;symm;rw[KF];exact⟨c.kids[k],gM _,by simpa using h⟩
   ·have h:(!jU threads locs d c.kids[k])=false:=h;refine⟨_,(zg (by omega)).trans rfl,k+1,(cvE rfl rfl),⟨y,?_,rfl⟩,zdc (by omega)⟩;rw[tsg y];intro x hx;rcases QH.1 hx with hx | hx
    ·exact m x hx
    ·simp only[Kv] at hx;rw[hx];simpa using h
  ·have t:¬(k:Int)<(c.kids.length:Int):=dF t;obtain rfl:k=c.kids.length:=by omega
   rw[Qn] at m;exact⟨rb (Qa.2 m).symm,rfl⟩
theorem zsL{B threads locs cap:Nat}{p:OA}{c:Cnd}{w:Wd}(hB:B<=w.heap.size)(hk:KidsV B w p c.kids) :
  CB 100 #[.agg (zu c p cap).toArray,i64 threads,i64 locs] w (.bool (jU threads locs 20 c)):=by
 refine zC 10 [.agg (zu c p cap).toArray,i64 threads,i64 locs] Tryz.func100 ?_;have a:Bw w (w.alloc (.cells (zu c p cap).toArray 27)):=zba w _;have b:=zw w (.cells (zu c p cap).toArray 27);refine cmo (zjG (B:=w.heap.size+1) (by rw[wz];omega) 20 c w.heap.size 0 p cap (by omega) (by omega) (za b) ((hk.kept (a.mono hB)).wider (by omega))) ?_;rintro e _ ⟨rfl,rfl⟩;exact⟨rfl,a⟩
theorem zjf{g:Nat}{p:Prg}{p1 p2 p3 p4:OA}{c1 c2 c3 c4 B:Nat}{w:Wd}(hc:zF w ⟨g,0,none⟩ (jC p p1 c1 p2 c2 p3 c3 p4 c4))(hg:g<w.heap.size)(h1:RowB zeD B w p1 p.locs)(hB:B<=w.heap.size)(hcap:p.locs.length<=c1)(hl:PrgLen p) :
  CB 92 #[At0 g] w (.bool (zcD p)):=by
 refine qg 56 [At0 g] (.s .p (.c .p .p)) Tryz.func92 ?_;have a:Bw w w.drew:=(UR _ w).drew;have j:zF w.drew ⟨g,0,none⟩ (jC p p1 c1 p2 c2 p3 c3 p4 c4):=zt a hc;have z:SlR zeD w.drew p1 p.locs:=(h1.below (a.mono hB)).slr (UC hB a.size);have ac:=hl.locs;refine⟨Unit,fun _=>⟨[(0,At0 g)],[]⟩,fun _ X=>(1<=p.locs.length/\p.locs.length<=6/\p.init.length=p.locs.length)/\X=w.drew,?_,?_⟩
 ·refine DrawE.ord [] [0,1,2,3,4,5,6,7,8,9,10,11,12,13,14,15,16,17,18,19,20,21,22,23,24,25,26] (by kernel_rfl) ⟨_,zc j (i:=1) rfl,biE (fun y=>?_) fun y=>?_⟩
  ·have y:(p.locs.length:Int)<1:=dT y;exact brT (brT ⟨rb (by unfold zcD;rw[QX (by omega)];rfl),a⟩)
  ·have y:¬(p.locs.length:Int)<1:=dF y;refine⟨_,zc j (i:=1) rfl,biE (fun v=>?_) fun v=>?_⟩
   ·have v:(6:Int)<(p.locs.length:Int):=dT v;exact brT ⟨rb (by unfold zcD;rw[QX (p:=p.locs.length<=6) (by omega)];simp),a⟩
   ·have v:¬(6:Int)<(p.locs.length:Int):=dF v;refine⟨_,zc j (i:=2) rfl,_,zc j (i:=1) rfl,biE (fun n=>?_) fun n=>?_⟩
    ·have n:(!decide ((p.init.length:Int)=(p.locs.length:Int)))=true:=n;have n:¬(p.init.length:Int)=(p.locs.length:Int):=(by simpa using n);exact⟨rb (by unfold zcD;rw[QX (p:=p.init.length=p.locs.length) (by omega)];simp),a⟩
    ·have n:(!decide ((p.init.length:Int)=(p.locs.length:Int)))=false:=n;have n:(p.init.length:Int)=(p.locs.length:Int):=(by simpa using n);exact⟨(),(cvE rfl rfl),⟨by omega,by omega,by omega⟩,rfl⟩
 rintro _ _ ⟨⟨l1,l6,li⟩,rfl⟩;have u:zcD p=zbd [] p.locs:=by unfold zcD;rw[Uh l1,Uh l6,Uh li];rfl
 rw[u];refine⟨_,zc j (i:=1) rfl,?_⟩;refine⟨Nat,fun k=>⟨[(0,At0 g),(35,.slice p1 p.locs.length c1),(36,i64 p.locs.length),(37,i64 (k:Nat))],[]⟩,fun k X=>k<=p.locs.length/\zbd (p.locs.take k) (p.locs.drop k)=zbd [] p.locs/\X=w.drew,fun k=>p.locs.length-k,0,
  (cvE rfl rfl),⟨UP _,rfl,rfl⟩,?_⟩
 rintro k _ ⟨hk,m,rfl⟩;dsimp only at hk m ⊢;refine biE (fun l=>?_) fun l=>?_
 ·have l:(k:Int)<(p.locs.length:Int):=dT l;have f:k<p.locs.length:=by omega
  obtain⟨b,o,rfl,hb,aa⟩:=z.at f;have ad:Bw w w.drew:=a;refine⟨k,rfl,f,_,zc (aa k f) (i:=0) rfl,?_⟩;have hs:p.locs[k].length<=140737488351232:=hl.loc _ (gM _);have d:zbd [] p.locs=(zaI p.locs[k]&&(!((p.locs.take k).any fun q=>decide (q=p.locs[k]))&&zbd (p.locs.take (k+1)) (p.locs.drop (k+1)))):=by
   rw[<- m,Jm f,tsg f];rfl
  refine cmo (zsE p.locs[k] hs _) ?_;rintro e _ ⟨rfl,rfl⟩;refine biE (fun h=>?_) fun h=>?_
  ·have h:(!zaI p.locs[k])=true:=h;have h:zaI p.locs[k]=false:=by simpa using h
   exact brT ⟨rb (by rw[d,h];rfl),a⟩
  ·have h:(!zaI p.locs[k])=false:=h;have h:zaI p.locs[k]=true:=by simpa using h
   refine⟨_,zc j (i:=1) rfl,k,rfl,by omega,?_⟩;have t:SlR zeD w.drew (z7 (some ⟨b,o,none⟩) c1 0 1) (p.locs.take k):=SlR.sub z (lo:=0) (hi:=k) (UP _) (by omega) hcap;have ab:(p.locs.take k).length=k:=by rw[Ql];omega
   have x:=zk7 (z7 (some ⟨b,o,none⟩) c1 0 1) (c1-0) (p.locs.take k) p.locs[k] w.drew t (by omega);rw[ab] at x;refine cmo x ?_;rintro e _ ⟨rfl,rfl⟩;refine biE (fun r=>?_) fun r=>?_
   ·have r:((p.locs.take k).any fun q=>decide (q=p.locs[k]))=true:=r;exact⟨rb (by rw[d,r];simp),a⟩
   ·have r:((p.locs.take k).any fun q=>decide (q=p.locs[k]))=false:=r;exact⟨_,(zg (by omega)).trans rfl,k+1,(cvE rfl rfl),⟨f,by rw[d,h,r];rfl,rfl⟩,zdc (by omega)⟩
 ·have l:¬(k:Int)<(p.locs.length:Int):=dF l;obtain rfl:k=p.locs.length:=by omega
  rw[Qd] at m;exact⟨rb m,a⟩
structure DmV (B:Nat) (X:Wd) (g bx:Nat) (p:Prg):Prop where
 hB:B<=X.heap.size
 hg:g<X.heap.size
 len:PrgLen p
 h:∃p1 c1 p2 c2 p3 c3 p4 c4,zF X ⟨g,0,none⟩ (jC p p1 c1 p2 c2 p3 c3 p4 c4)/\RowB zeD B X p1 p.locs/\RowB zN B X p2 p.init/\ThrsV B X p3 p.threads/\KidsV B X p4 p.cond.kids/\p.locs.length<=c1
 b:X.heap[bx]?=some (.cells #[At0 g] 88 (0,0))
 G:GlobC X
theorem DmV.below{B:Nat}{X Y:Wd}{g bx:Nat}{p:Prg}(h:DmV B X g bx p)(hb:Bw X Y):DmV B Y g bx p:=by
 obtain⟨f,j,d,e,r,l,o,q,s,n,k,c,m,i⟩:=h.h;have a:=hb.mono h.hB;exact⟨UC h.hB hb.size,nL h.hg hb.size,h.len,⟨f,j,d,e,r,l,o,q,zt hb s,n.below a,k.below a,c.below a,m.kept a,i⟩,zb hb h.b,h.G.below hb⟩
def zkn (sel:Bool) (bx:Nat):Value:=match sel with
 | false => .func (.func 94) #[] #[]
 | true => .func (.func 96) #[] #[.pointer (some ⟨bx,0,none⟩)]
def zbB (sel:Bool) (p:Prg) (l:List InsD):Bool:=match sel with
 | false=>decide (l.length<=12)
 | true=>qX l p.locs.length
section
variable{B g bx:Nat}{p:Prg}{w:Wd}
theorem zpI(q:OA)(cap:Nat)(l:List InsD):Calls PG 94 #[.slice q l.length cap] w fun e w'=>e = .returned (.bool (decide (l.length<=12)))/\w=w':=by
 refine zC 6 [.slice q l.length cap] Tryz.func94 ?_;refine⟨rb ?_,rfl⟩;rw[Qw];show((l.length:Int)<=12)↔_;omega
theorem znB(h:DmV B w g bx p){q:OA}{cap:Nat}{l:List InsD}(hl:SlR zS w q l)(hn:l.length<=140737488351232) :
  CB 96 #[.slice q l.length cap,At0 bx] w (.bool (qX l p.locs.length)):=by
 refine zC 11 [.slice q l.length cap,At0 bx] Tryz.func96 ?_;obtain⟨k,n,f,j,x,r,u,v,c,t,o,d,s,m⟩:=h.h;refine⟨_,zc (za h.b) (i:=0) rfl,_,zc c (i:=1) rfl,cmo (zjX hl h.G hn) ?_⟩;rintro e V ⟨rfl,a⟩;exact⟨rfl,a⟩
theorem zlP(sel:Bool)(h:DmV B w g bx p):CB 88 #[zkn sel bx,At0 bx] w (.bool (p.threads.all (zbB sel p))):=by
 refine zC 20 [zkn sel bx,At0 bx] Tryz.func88 ?_;obtain⟨p1,c1,p2,c2,p3,c3,p4,c4,h0,h1,h2,h3,h4,h5⟩:=h.h;obtain⟨c,q,hr,m⟩:=h3;have ac:p.threads.length=c.length:=by rw[<- q,QD]
 have ad:=h.len.threads;refine⟨_,zc (za h.b) (i:=0) rfl,_,zc h0 (i:=3) rfl,?_⟩;refine⟨Nat,fun k=>⟨[(0,zkn sel bx),(1,At0 bx),(9,.slice p3 p.threads.length c3),(10,i64 p.threads.length),(11,i64 (k:Nat))],[]⟩,fun k X=>k<=p.threads.length/\(∀l∈p.threads.take k,zbB sel p l=true)/\Bw w X,fun k=>p.threads.length-k,0,
  (cvE rfl rfl),⟨UP _,by simp,UR _ _⟩,?_⟩
 rintro k X ⟨hk,f,a⟩;dsimp only at hk f ⊢;have hX:=h.below a;refine biE (fun s=>?_) fun s=>?_
 ·have s:(k:Int)<(p.threads.length:Int):=dT s;have j:k<p.threads.length:=by omega
  have v:k<c.length:=by omega
  have e1:p.threads[k]=c[k].1:=by simp[<- q]
  obtain⟨b,o,t,aa⟩:=hr.get;rcases t with t | rfl
  ·omega
  refine⟨k,rfl,j,?_⟩;obtain⟨ab,z⟩:=aa k v;refine⟨_,zc (q5 (a.mono h.hB) ab z) (i:=0) rfl,?_⟩;have zck:SlR zS X c[k].2.1 c[k].1:=((m _ (gM v)).below (a.mono h.hB)).slr hX.hB;have r:c[k].1.length<=140737488351232:=by rw[<- e1];exact h.len.thread _ (gM _)
  have n:zbB sel p c[k].1=false->p.threads.all (zbB sel p)=false:=fun hf=>by
   rw[KF];exact⟨p.threads[k],gM _,by rw[e1,hf];simp⟩
  have y:zbB sel p c[k].1=true->∀l∈p.threads.take (k+1),zbB sel p l=true:=fun ht=>by
   rw[tsg j];intro x m;rcases QH.1 m with m | m
   ·exact f x m
   ·simp only[Kv] at m;rw[m,e1];exact ht
  cases sel with
  | false =>
   refine cmo (zpI c[k].2.1 c[k].2.2 c[k].1) ?_;rintro e _ ⟨rfl,rfl⟩;refine biE (fun d=>?_) fun d=>?_
   ·have d:(!zbB false p c[k].1)=true:=d;exact⟨rb (n (by simpa using d)).symm,a⟩
   ·have d:(!zbB false p c[k].1)=false:=d;exact⟨_,(zg (by omega)).trans rfl,k+1,(cvE rfl rfl),⟨j,y (by simpa using d),a⟩,zdc (by omega)⟩
  | true =>
   refine cmo (znB hX (cap:=c[k].2.2) zck r) ?_;rintro e Y ⟨rfl,u⟩;refine biE (fun d=>?_) fun d=>?_
   ·have d:(!zbB true p c[k].1)=true:=d;exact⟨rb (n (by simpa using d)).symm,(zst a u)⟩
   ·have d:(!zbB true p c[k].1)=false:=d;exact⟨_,(zg (by omega)).trans rfl,k+1,(cvE rfl rfl),⟨j,y (by simpa using d),(zst a u)⟩,zdc (by omega)⟩
 ·have s:¬(k:Int)<(p.threads.length:Int):=dF s;obtain rfl:k=p.threads.length:=by omega
  rw[Qn] at f;exact⟨rb (Qa.2 f).symm,a⟩
theorem zsn(h:DmV B w g bx p):CB 89 #[At0 bx] w (.bool (zcX p.name)):=by
 refine zC 7 [At0 bx] Tryz.func89 ?_;obtain⟨k,m,f,j,u,o,s,t,c,r,n,d,q,l⟩:=h.h;refine⟨_,zc (za h.b) (i:=0) rfl,_,zc c (i:=0) rfl,cmo (zoz p.name h.len.name w) ?_⟩;rintro e V ⟨rfl,a⟩;exact⟨rfl,a⟩
theorem zsm(h:DmV B w g bx p):CB 91 #[At0 bx] w (.bool (zcD p)):=by
 refine zC 4 [At0 bx] Tryz.func91 ?_;obtain⟨m,n,k,l,u,q,s,t,f,c,o,j,r,a⟩:=h.h;refine⟨_,zc (za h.b) (i:=0) rfl,cmo (zjf f h.hg c h.hB a h.len) ?_⟩;rintro e V ⟨rfl,d⟩;exact⟨rfl,d⟩
def evV (bx:Nat):Value := .func (.func 88) #[] #[At0 bx]
theorem zsl(h:DmV B w g bx p){ev:Nat}(hev:w.heap[ev]?=some (.cells #[evV bx] 173 (0,0))):CB 93 #[At0 bx,At0 ev] w (.bool (decide (1<=p.threads.length)&&(decide (p.threads.length<=4)&&p.threads.all fun l=>decide (l.length<=12)))):=by
 refine zC 21 [At0 bx,At0 ev] Tryz.func93 ?_;obtain⟨n,q,k,m,x,t,y,v,f,u,r,j,s,o⟩:=h.h;refine⟨_,zc (za h.b) (i:=0) rfl,_,zc f (i:=3) rfl,biE (fun c=>?_) fun c=>?_⟩
 ·have c:(1:Int)<=(p.threads.length:Int):=dT c;refine⟨_,zc (za h.b) (i:=0) rfl,_,zc f (i:=3) rfl,biE (fun a=>?_) fun a=>?_⟩
  ·have a:(p.threads.length:Int)<=4:=dT a;refine⟨_,zc (za hev) (i:=0) rfl,cmo (zlP false h) ?_⟩;rintro e V ⟨rfl,d⟩;refine⟨rb ?_,d⟩;rw[Uh (by omega),Uh (by omega),Un,Un];rfl
  ·have a:¬(p.threads.length:Int)<=4:=dF a;exact⟨rb (by rw[QX (p:=p.threads.length<=4) (by omega)];simp),UR _ _⟩
 ·have c:¬(1:Int)<=(p.threads.length:Int):=dF c;exact brF ⟨rb (by rw[QX (p:=1<=p.threads.length) (by omega)];rfl),UR _ _⟩
theorem zsk(h:DmV B w g bx p){ev:Nat}(hev:w.heap[ev]?=some (.cells #[evV bx] 173 (0,0))):CB 95 #[At0 ev,At0 bx] w (.bool (p.threads.all fun l=>qX l p.locs.length)):=by
 refine zC 6 [At0 ev,At0 bx] Tryz.func95 ?_;refine⟨_,zc (za hev) (i:=0) rfl,cmo (zlP true h) ?_⟩;rintro e V ⟨rfl,a⟩;exact⟨rfl,a⟩
theorem zsj(h:DmV B w g bx p):CB 98 #[At0 bx] w (.bool (decide (p.ask=1)||(decide (p.ask=2)||decide (p.ask=3)))):=by
 refine zC 21 [At0 bx] Tryz.func98 ?_;obtain⟨k,m,f,j,u,o,s,t,d,r,n,e,q,l⟩:=h.h;refine⟨_,zc (za h.b) (i:=0) rfl,_,zc d (i:=4) rfl,biE (fun a=>?_) fun a=>?_⟩
 ·have a:decide (p.ask=1)=true:=(u8d p.ask 1).symm.trans a;exact brT ⟨rb (by rw[a];rfl),UR _ _⟩
 ·have a:decide (p.ask=1)=false:=(u8d p.ask 1).symm.trans a;refine⟨_,zc (za h.b) (i:=0) rfl,_,zc d (i:=4) rfl,biE (fun c=>?_) fun c=>?_⟩
  ·have c:decide (p.ask=2)=true:=(u8d p.ask 2).symm.trans c;exact⟨rb (by rw[a,c];rfl),UR _ _⟩
  ·have c:decide (p.ask=2)=false:=(u8d p.ask 2).symm.trans c;exact⟨_,zc (za h.b) (i:=0) rfl,_,zc d (i:=4) rfl,rb (by rw[a,c];exact u8d p.ask 3),UR _ _⟩
theorem zsi(h:DmV B w g bx p):CB 99 #[At0 bx] w (.bool (jU p.threads.length p.locs.length 20 p.cond)):=by
 refine zC 17 [At0 bx] Tryz.func99 ?_;have c:Bw w w.drew:=(UR _ w).drew;have a:=h.below c;obtain⟨s,u,q,r,z,x,l,k,f,y,v,o,j,t⟩:=a.h;refine DrawE.ord [] [0,1,2,3,4,5,6,7,8,9,10,11,12,13,14,15] (by kernel_rfl) ⟨_,zc (za a.b) (i:=0) rfl,zu p.cond l k,rfl,zI (n:=5) (m:=5) f,a.hg,_,zc (za a.b) (i:=0) rfl,_,zc f (i:=3) rfl,_,zc (za a.b) (i:=0) rfl,_,zc f (i:=1) rfl,cmo (zsL a.hB j) ?_⟩;rintro e V ⟨rfl,d⟩;exact⟨d,rfl,c.trans d⟩
def zsh (bx ev:Nat):List Value:=[i64 70,.func (.func 89) #[] #[At0 bx],i64 71,.func (.func 91) #[] #[At0 bx],
 i64 72,.func (.func 93) #[] #[At0 bx,At0 ev],i64 73,.func (.func 95) #[] #[At0 ev,At0 bx],
 i64 75,.func (.func 98) #[] #[At0 bx],i64 74,.func (.func 99) #[] #[At0 bx]]
theorem zmW{g:Nat}{w:Wd}:Calls PG 46 #[At0 g] w fun e w'=>e = .returned (.slice (some ⟨w.heap.size+2,0,none⟩) 6 6) /\
  w'.heap[w.heap.size]?=some (.cells #[At0 g] 88 (0,0))/\w'.heap[w.heap.size+1]?=some (.cells #[evV w.heap.size] 173 (0,0)) /\
  w'.heap[w.heap.size+2]?=some (.cells (zsh w.heap.size (w.heap.size+1)).toArray 120 (0,0))/\w'.heap.size=w.heap.size+3/\Bw w w':=by
 refine zC 18 [At0 g] Tryz.func46 ?_;have c:=wz w (.cells (At0 g).cells 88);refine zr (X:=w.alloc (.cells (At0 g).cells 88)) (v:=evV w.heap.size) ztC rfl rfl rfl fun V a d b=>?_;replace a:Below _ _ _:=a;generalize hev:(w.alloc (.cells (At0 g).cells 88)).heap.size=ev at *;refine⟨[i64 70,.func (.func 89) #[] #[.pointer (some ⟨w.heap.size,0,none⟩)]],rfl,[i64 71,.func (.func 91) #[] #[.pointer (some ⟨w.heap.size,0,none⟩)]],rfl,[i64 72,.func (.func 93) #[] #[.pointer (some ⟨w.heap.size,0,none⟩),At0 ev]],rfl,[i64 73,.func (.func 95) #[] #[At0 ev,.pointer (some ⟨w.heap.size,0,none⟩)]],rfl,[i64 75,.func (.func 98) #[] #[.pointer (some ⟨w.heap.size,0,none⟩)]],rfl,[i64 74,.func (.func 99) #[] #[.pointer (some ⟨w.heap.size,0,none⟩)]],rfl,⟨by decide,by decide,rfl⟩,zsh w.heap.size ev,rfl,?_⟩;subst c;refine⟨?_,?_,?_,?_,?_,?_⟩
 ·rw[b];rfl
 ·exact z6 _ (zb (show Below _ _ _ from hev▸a) (zw w _))
 ·exact z6 _ d
 ·rw[show w.heap.size+2=V.heap.size from b.symm];exact zw _ _
 ·rw[wz,b]
 ·exact(((zba w _)).trans (a.mono (by omega))).alloc (by omega) _
end
def okL (p:Prg):List Bool:=[zcX p.name,zcD p,decide (1<=p.threads.length)&&(decide (p.threads.length<=4)&&p.threads.all fun l=>decide (l.length<=12)),p.threads.all (fun l=>qX l p.locs.length),
 decide (p.ask=1)||(decide (p.ask=2)||decide (p.ask=3)),jU p.threads.length p.locs.length 20 p.cond]
theorem zlz{p:Prg}:zbr p=(okL p).all id:=by
 unfold zbr okL;simp only[Up,List.all_nil,Bool.and_true,id]
theorem zfv{B:Nat}{p:Prg}{vs:List Value}{w:Wd}(hB:B<=w.heap.size)(hp:PrgV B w vs p)(hG:GlobC w) :
  Calls PG 14 #[.agg vs.toArray] w fun e w'=>∃n:Int,e = .returned (i64 n)/\(n=0↔zbr p=true)/\Bw w w':=by
 obtain⟨hl,p1,c1,p2,c2,p3,c3,p4,c4,rfl,h1,h2,h3,h4,h5⟩:=hp;refine zC 18 [.agg (jC p p1 c1 p2 c2 p3 c3 p4 c4).toArray] Tryz.func14 ?_;obtain⟨L,hL⟩:=nm (w.heap.size);have hn:=zw w (.cells (Value.agg (jC p p1 c1 p2 c2 p3 c3 p4 c4).toArray).cells 29);have hs:=wz w (.cells (Value.agg (jC p p1 c1 p2 c2 p3 c3 p4 c4).toArray).cells 29);have a:Bw w (w.alloc (.cells (Value.agg (jC p p1 c1 p2 c2 p3 c3 p4 c4).toArray).cells 29)):=zba w _;refine cmo zmW ?_;rintro e V ⟨rfl,aa,r,d,ac,z⟩;have g:Bw w V:=zst a z;have ab:some (Value.slice (some ⟨(w.alloc (.cells (Value.agg (jC p p1 c1 p2 c2 p3 c3 p4 c4).toArray).cells 29)).heap.size+2,0,none⟩) 6 6)=some (Value.slice (some ⟨L+3,0,none⟩) 6 6):=by rw[hs,hL]
 have x:DmV B V L (L+1) p:=by
  have y:=g.mono hB;rw[hs,<- hL] at aa;refine⟨UC hB g.size,by omega,hl,⟨p1,c1,p2,c2,p3,c3,p4,c4,za (zb z (hL▸hn)),h1.below y,h2.below y,h3.below y,h4.kept y,h5⟩,aa,hG.below g⟩
 rw[hs,<- hL] at r d;clear hn hs a aa z ac;refine⟨Nat,fun j=>⟨[(5,.slice (some ⟨L+3,0,none⟩) 6 6),(6,i64 6),(7,i64 (j:Nat))],[]⟩,
  fun j X=>j<=6/\(∀i,i<j->(okL p)[i]?=some true)/\DmV B X L (L+1) p/\X.heap[L+2]?=some (.cells #[evV (L+1)] 173 (0,0))/\X.heap[L+3]?=some (.cells (zsh (L+1) (L+2)).toArray 120 (0,0))/\Bw w X,fun j=>6-j,0,
  ⟨.cons ab (.cons rfl (.cons rfl .nil)),rfl⟩,⟨UP _,fun i hi=>by omega,x,r,d,g⟩,?_⟩
 clear x r d g ab;rintro j X ⟨hj,o,x,r,d,g⟩;dsimp only at hj o ⊢;refine biE (fun hc=>?_) fun hc=>?_
 ·have hc:(j:Int)<6:=dT hc;have u:∀{i:Nat},(okL p)[i]?=some false->zbr p=false:=fun h=>by rw[zlz];exact zpe h
  have ad:j=0\/j=1\/j=2\/j=3\/j=4\/j=5:=by omega
  rcases ad with rfl | rfl | rfl | rfl | rfl | rfl
  ·refine⟨0,rfl,by decide,?_⟩;refine⟨[i64 70,.func (.func 89) #[] #[At0 (L+1)]],rfl,zI (n:=0) (m:=2) (za d),hlt d,zr (X:=X) (v := .agg [i64 70,.func (.func 89) #[] #[At0 (L+1)]].toArray) zmM rfl rfl rfl fun Y c t sY=>?_⟩;have s:=x.below c;have f:=zb c r;have k:=zb c d;refine⟨_,zc (za t) (i:=1) rfl,cmo (zsn s) ?_⟩;rintro e W ⟨rfl,b⟩;have l:Bw w W:=((zst g c)).trans (b.mono (UC g.size c.size));refine biE (fun a=>?_) fun a=>?_
   ·have a:(!((okL p)[0]'(by show 0<6;decide)))=true:=a;have a:(okL p)[0]?=some false:=(by rw[gE (by show 0<6;decide)];exact UY some (by rw[<- Uv ((okL p)[0]'(by show 0<6;decide)),a];rfl));exact⟨_,zc (za (zb b t)) (i:=0) rfl,70,rfl,⟨fun h=>Ge h (by decide),fun h=>by rw[u a] at h;cases h⟩,l⟩
   ·have a:(!((okL p)[0]'(by show 0<6;decide)))=false:=a;have a:(okL p)[0]?=some true:=(by rw[gE (by show 0<6;decide)];exact UY some (by rw[<- Uv ((okL p)[0]'(by show 0<6;decide)),a];rfl));refine⟨_,(zg (by omega)).trans rfl,1,(cvE rfl rfl),⟨by omega,fun i hi=>?_,s.below b,zb b f,zb b k,l⟩,by decide⟩;by_cases q:i=0
    ·rw[q];exact a
    ·exact o i (by omega)
  ·refine⟨1,rfl,by decide,?_⟩;refine⟨[i64 71,.func (.func 91) #[] #[At0 (L+1)]],rfl,zI (n:=2) (m:=2) (za d),hlt d,zr (X:=X) (v := .agg [i64 71,.func (.func 91) #[] #[At0 (L+1)]].toArray) zmM rfl rfl rfl fun Y c t sY=>?_⟩;have s:=x.below c;have f:=zb c r;have k:=zb c d;refine⟨_,zc (za t) (i:=1) rfl,cmo (zsm s) ?_⟩;rintro e W ⟨rfl,b⟩;have l:Bw w W:=((zst g c)).trans (b.mono (UC g.size c.size));refine biE (fun a=>?_) fun a=>?_
   ·have a:(!((okL p)[1]'(by show 1<6;decide)))=true:=a;have a:(okL p)[1]?=some false:=(by rw[gE (by show 1<6;decide)];exact UY some (by rw[<- Uv ((okL p)[1]'(by show 1<6;decide)),a];rfl));exact⟨_,zc (za (zb b t)) (i:=0) rfl,71,rfl,⟨fun h=>Ge h (by decide),fun h=>by rw[u a] at h;cases h⟩,l⟩
   ·have a:(!((okL p)[1]'(by show 1<6;decide)))=false:=a;have a:(okL p)[1]?=some true:=(by rw[gE (by show 1<6;decide)];exact UY some (by rw[<- Uv ((okL p)[1]'(by show 1<6;decide)),a];rfl));refine⟨_,(zg (by omega)).trans rfl,2,(cvE rfl rfl),⟨by omega,fun i hi=>?_,s.below b,zb b f,zb b k,l⟩,by decide⟩;by_cases q:i=1
    ·rw[q];exact a
    ·exact o i (by omega)
  ·refine⟨2,rfl,by decide,?_⟩;refine⟨[i64 72,.func (.func 93) #[] #[At0 (L+1),At0 (L+2)]],rfl,zI (n:=4) (m:=2) (za d),hlt d,zr (X:=X) (v := .agg [i64 72,.func (.func 93) #[] #[At0 (L+1),At0 (L+2)]].toArray) zmM rfl rfl rfl fun Y c t sY=>?_⟩;have s:=x.below c;have f:=zb c r;have k:=zb c d;refine⟨_,zc (za t) (i:=1) rfl,cmo (zsl s f) ?_⟩;rintro e W ⟨rfl,b⟩;have l:Bw w W:=((zst g c)).trans (b.mono (UC g.size c.size));refine biE (fun a=>?_) fun a=>?_
   ·have a:(!((okL p)[2]'(by show 2<6;decide)))=true:=a;have a:(okL p)[2]?=some false:=(by rw[gE (by show 2<6;decide)];exact UY some (by rw[<- Uv ((okL p)[2]'(by show 2<6;decide)),a];rfl));exact⟨_,zc (za (zb b t)) (i:=0) rfl,72,rfl,⟨fun h=>Ge h (by decide),fun h=>by rw[u a] at h;cases h⟩,l⟩
   ·have a:(!((okL p)[2]'(by show 2<6;decide)))=false:=a;have a:(okL p)[2]?=some true:=(by rw[gE (by show 2<6;decide)];exact UY some (by rw[<- Uv ((okL p)[2]'(by show 2<6;decide)),a];rfl));refine⟨_,(zg (by omega)).trans rfl,3,(cvE rfl rfl),⟨by omega,fun i hi=>?_,s.below b,zb b f,zb b k,l⟩,by decide⟩;by_cases q:i=2
    ·rw[q];exact a
    ·exact o i (by omega)
  ·refine⟨3,rfl,by decide,?_⟩;refine⟨[i64 73,.func (.func 95) #[] #[At0 (L+2),At0 (L+1)]],rfl,zI (n:=6) (m:=2) (za d),hlt d,zr (X:=X) (v := .agg [i64 73,.func (.func 95) #[] #[At0 (L+2),At0 (L+1)]].toArray) zmM rfl rfl rfl fun Y c t sY=>?_⟩;have s:=x.below c;have f:=zb c r;have k:=zb c d;refine⟨_,zc (za t) (i:=1) rfl,cmo (zsk s f) ?_⟩;rintro e W ⟨rfl,b⟩;have l:Bw w W:=((zst g c)).trans (b.mono (UC g.size c.size));refine biE (fun a=>?_) fun a=>?_
   ·have a:(!((okL p)[3]'(by show 3<6;decide)))=true:=a;have a:(okL p)[3]?=some false:=(by rw[gE (by show 3<6;decide)];exact UY some (by rw[<- Uv ((okL p)[3]'(by show 3<6;decide)),a];rfl));exact⟨_,zc (za (zb b t)) (i:=0) rfl,73,rfl,⟨fun h=>Ge h (by decide),fun h=>by rw[u a] at h;cases h⟩,l⟩
   ·have a:(!((okL p)[3]'(by show 3<6;decide)))=false:=a;have a:(okL p)[3]?=some true:=(by rw[gE (by show 3<6;decide)];exact UY some (by rw[<- Uv ((okL p)[3]'(by show 3<6;decide)),a];rfl));refine⟨_,(zg (by omega)).trans rfl,4,(cvE rfl rfl),⟨by omega,fun i hi=>?_,s.below b,zb b f,zb b k,l⟩,by decide⟩;by_cases q:i=3
    ·rw[q];exact a
    ·exact o i (by omega)
  ·refine⟨4,rfl,by decide,?_⟩;refine⟨[i64 75,.func (.func 98) #[] #[At0 (L+1)]],rfl,zI (n:=8) (m:=2) (za d),hlt d,zr (X:=X) (v := .agg [i64 75,.func (.func 98) #[] #[At0 (L+1)]].toArray) zmM rfl rfl rfl fun Y c t sY=>?_⟩;have s:=x.below c;have f:=zb c r;have k:=zb c d;refine⟨_,zc (za t) (i:=1) rfl,cmo (zsj s) ?_⟩;rintro e W ⟨rfl,b⟩;have l:Bw w W:=((zst g c)).trans (b.mono (UC g.size c.size));refine biE (fun a=>?_) fun a=>?_
   ·have a:(!((okL p)[4]'(by show 4<6;decide)))=true:=a;have a:(okL p)[4]?=some false:=(by rw[gE (by show 4<6;decide)];exact UY some (by rw[<- Uv ((okL p)[4]'(by show 4<6;decide)),a];rfl));exact⟨_,zc (za (zb b t)) (i:=0) rfl,75,rfl,⟨fun h=>Ge h (by decide),fun h=>by rw[u a] at h;cases h⟩,l⟩
   ·have a:(!((okL p)[4]'(by show 4<6;decide)))=false:=a;have a:(okL p)[4]?=some true:=(by rw[gE (by show 4<6;decide)];exact UY some (by rw[<- Uv ((okL p)[4]'(by show 4<6;decide)),a];rfl));refine⟨_,(zg (by omega)).trans rfl,5,(cvE rfl rfl),⟨by omega,fun i hi=>?_,s.below b,zb b f,zb b k,l⟩,by decide⟩;by_cases q:i=4
    ·rw[q];exact a
    ·exact o i (by omega)
  ·refine⟨5,rfl,by decide,?_⟩;refine⟨[i64 74,.func (.func 99) #[] #[At0 (L+1)]],rfl,zI (n:=10) (m:=2) (za d),hlt d,zr (X:=X) (v := .agg [i64 74,.func (.func 99) #[] #[At0 (L+1)]].toArray) zmM rfl rfl rfl fun Y c t sY=>?_⟩;have s:=x.below c;have f:=zb c r;have k:=zb c d;refine⟨_,zc (za t) (i:=1) rfl,cmo (zsi s) ?_⟩;rintro e W ⟨rfl,b⟩;have l:Bw w W:=((zst g c)).trans (b.mono (UC g.size c.size));refine biE (fun a=>?_) fun a=>?_
   ·have a:(!((okL p)[5]'(by show 5<6;decide)))=true:=a;have a:(okL p)[5]?=some false:=(by rw[gE (by show 5<6;decide)];exact UY some (by rw[<- Uv ((okL p)[5]'(by show 5<6;decide)),a];rfl));exact⟨_,zc (za (zb b t)) (i:=0) rfl,74,rfl,⟨fun h=>Ge h (by decide),fun h=>by rw[u a] at h;cases h⟩,l⟩
   ·have a:(!((okL p)[5]'(by show 5<6;decide)))=false:=a;have a:(okL p)[5]?=some true:=(by rw[gE (by show 5<6;decide)];exact UY some (by rw[<- Uv ((okL p)[5]'(by show 5<6;decide)),a];rfl));refine⟨_,(zg (by omega)).trans rfl,6,(cvE rfl rfl),⟨by omega,fun i hi=>?_,s.below b,zb b f,zb b k,l⟩,by decide⟩;by_cases q:i=5
    ·rw[q];exact a
    ·exact o i (by omega)
 ·have hc:¬(j:Int)<6:=dF hc;obtain rfl:j=6:=by omega
  exact⟨0,rfl,⟨fun _=>by rw[zlz];exact zjV o rfl,fun _=>rfl⟩,g⟩
def ThrsW (B:Nat) (w:Wd) (p:OA) (l:List (List InsD)):Prop:=∃xs:List zk6,xs.map (·.1)=l/\RowB znD B w p xs/\∀x∈xs,RowB zS B w x.2.1 x.1/\(x.1≠[]->∀a,x.2.1=some a->a.block<B)
structure PrgX (B:Nat) (w:Wd) (vs:List Value) (p:Prg):Prop where
 v:PrgV B w vs p
 th:∃p3 c3,vs[3]?=some (.slice p3 p.threads.length c3)/\ThrsW B w p3 p.threads
 init:∃p2 c2,vs[2]?=some (.slice p2 p.init.length c2)/\RowB zN B w p2 p.init
theorem ThrsW.below{B:Nat}{w w2:Wd}{p:OA}{l:List (List InsD)}(h:ThrsW B w p l)(hb:Below B w w2):ThrsW B w2 p l:=by
 obtain⟨c,e,d,a⟩:=h;exact⟨c,e,d.below hb,fun x b=>⟨(a x b).1.below hb,(a x b).2⟩⟩
theorem PrgX.below{B:Nat}{w w2:Wd}{vs:List Value}{p:Prg}(h:PrgX B w vs p)(hb:Below B w w2):PrgX B w2 vs p:=by
 obtain⟨i,⟨j,f,e,a⟩,⟨b,c,g,d⟩⟩:=h;exact⟨i.below hb,⟨j,f,e,a.below hb⟩,⟨b,c,g,d.below hb⟩⟩
theorem zhT{α:Type}{E:Enc α}{B:Nat}{w:Wd}{p:OA}{l:List α}(h:RowB E B w p l){i:Nat}(hi:i<l.length):∃b o,p=some ⟨b,o,none⟩/\b<B/\∀i (h:i<l.length),zF w ⟨b,o+i*E.sz,none⟩ (E.enc l[i]):=by
 obtain⟨b,o,c,a⟩:=h.get;rcases c with c | c
 ·omega
 ·exact⟨b,o,c,(a i hi).1,fun j d=>(a j d).2⟩
def zeu (threads:List (List InsD)) (vals:List UInt8):Bool :=
 decide (1<=vals.length)&&(decide (vals.length<=12)&&((threads.all fun l=>decide (1<=l.length/\(jT l vals).length<=4096))&&(decide ((vals++threads.flatMap fun l=>jH (jT l vals)).length<=12)&&zdj (vals++threads.flatMap fun l=>jH (jT l vals)))))
def zdY (threads:List (List InsD)) (vals:List UInt8):List UInt8:=ded (vals++threads.flatMap fun l=>jH (jT l vals))
def zeW (threads:List (List InsD)):Nat->List UInt8->Option (List UInt8)
 | 0,_=>none
 | n+1,vals=>if zeu threads vals=true then (if (zdY threads vals).length=vals.length then some vals else zeW threads n (zdY threads vals)) else none
theorem znq{ts:List (List InsD)}{n:Nat}{vals V:List UInt8}(h:zeW ts n vals=some V):∀l∈ts,l≠[]:=by
 cases n with
 | zero=>cases h
 | succ n =>
  unfold zeW at h
  split at h
  ·rename_i a;unfold zeu at a;simp only[bAT,dE,Qa] at a;intro l b e;have:=(a.2.2.1 l b).1;rw[e] at this;exact Ge this (by decide)
  ·cases h
structure RunK (l:List InsD) (R:RunD):Prop where
 m:R.many<=R.pc
 p:R.pc<=l.length
 d:∀i,R.deps i<2^32
 c:R.ctl<2^32
 s:∀i,R.data i<2^32/\R.ctrl i<2^32/\R.att i<2^32
theorem zs1{n:Nat}(h:n<32):2^n<2^32:=JZ (by decide) h
theorem zj7{f:Nat->Nat}{b:Nat}(h:∀i,f i<b){k v:Nat}(hv:v<b):∀i,upd f k v i<b:=fun i=>by
 by_cases e:i=k
 ·rw[e,qM];exact hv
 ·rw[zak _ _ e];exact h i
theorem RunK.emit{l:List InsD}{R:RunD}(h:RunK l R){k a v m:UInt8}{d:Nat}(hd:d<2^32):(∀i,(zbu R k a v m d).deps i<2^32)/\(zbu R k a v m d).ctl<2^32/\∀i,(zbu R k a v m d).data i<2^32/\(zbu R k a v m d).ctrl i<2^32/\(zbu R k a v m d).att i<2^32:=by
 unfold zbu;exact⟨h.d,h.c,fun i=>⟨zj7 (fun i=>(h.s i).1) hd i,zj7 (fun i=>(h.s i).2.1) h.c i,(h.s i).2.2⟩⟩
theorem RunK.exec{l:List InsD}{R:RunD}{x:InsD}{v:UInt8}(h:RunK l R)(hx:zc7 x)(hp:R.pc<l.length)(h12:l.length<=12):RunK l (ql R x v):=by
 obtain⟨e,f⟩:=zif (R:=R) (v:=v) hx;have j:=h.m;have g:=zs1 (n:=R.many) (by omega);have c:(∀i,(ql R x v).deps i<2^32)/\(ql R x v).ctl<2^32/\∀i,(ql R x v).data i<2^32/\(ql R x v).ctrl i<2^32/\(ql R x v).att i<2^32:=by
  unfold ql zmV;rcases hx with⟨b,_⟩ | ⟨b,_⟩ | b
  ·rw[Gd b];have:=h.emit (k:=1) (a:=x.loc) (v:=v) (m:=x.mode) (d:=0) (by decide);exact⟨zj7 this.1 g,this.2.1,this.2.2⟩
  ·rw[Gc (by rw[b];decide),Gd b];refine h.emit (k:=2) (a:=x.loc) (v:=(zaG x.ar x.an R).1) (m:=x.mode) ?_;unfold zaG
   split
   ·exact h.d _
   ·exact(by decide:0<2^32)
  ·rw[Gc (by rw[b];decide),Gc (by rw[b];decide),Gc (by rw[b];decide),Gc (by rw[b];decide),Gc (by rw[b];decide),Gc (by rw[b];decide),Gd b];exact h.emit (k:=3) (a:=0) (v:=0) (m:=x.mode) (d:=0) (by decide)
 exact⟨by rw[e,f];omega,by rw[e];omega,c.1,c.2.1,c.2.2⟩
theorem RunK.go{l:List InsD}(h12:l.length<=12)(hx:∀x∈l,zc7 x):∀(n:Nat) (R:RunD),RunK l R->RunK l (goR l n R)
 | 0,R,h=>h
 | n+1,R,h=>by
  unfold goR
  split
  ·exact h
  ·rename_i x a
   split
   ·exact h
   ·have c:=(Jo.1 a).1;have b:x∈l:=JS a;exact RunK.go h12 hx n _ (h.exec (hx x b) c h12)
theorem RunK.spread{l:List InsD}{dom:List UInt8}(h12:l.length<=12)(hx:∀x∈l,zc7 x):∀(n:Nat) (R:RunD),RunK l R->∀S∈zZ l dom n R,RunK l S
 | 0,R,h,S,a=>by
  have a:S∈[goR l l.length R]:=a;rw[Kv] at a;rw[a];exact RunK.go h12 hx _ _ h
 | n+1,R,h,S,a=>by
  have c:=RunK.go h12 hx l.length R h;unfold zZ at a
  split at a
  ·rw[Kv] at a;rw[a];exact c
  ·rename_i x b;obtain⟨v,_,a⟩:=List.mem_flatMap.1 a;have e:=(Jo.1 b).1;have d:x∈l:=JS b;exact RunK.spread h12 hx n _ (c.exec (hx x d) e h12) S a
theorem zlS{l:List InsD}{dom:List UInt8}(h12:l.length<=12)(hx:∀x∈l,zc7 x):∀R∈jT l dom,R.many<=24/\zsD R:=fun R a=>by
 have b:RunK l zmo:=⟨UN _,UP _,fun _=>(by decide:0<2^32),(by decide:0<2^32),fun _=>⟨(by decide:0<2^32),(by decide:0<2^32),(by decide:0<2^32)⟩⟩;have h:=RunK.spread h12 hx _ _ b R a;have:=h.m;have:=h.p;exact⟨by omega,fun i _=>h.s i⟩
end Go.Proofs.YtakcdebpklffiaaGreatDoor
