/- Contracts of functions, and plain facts, for the law that the last text of this claim proves. -/
import Derived.Test.YtakcdebpklffiaaGreatDoorM3
import Derived.Test.YtakcdebpklffiaaGreatDoorM2
import Derived.Lib.AppendZerosOnto
import Derived.Laws.OwnMore
import Derived.Test.YtakcdebpklffiaaGreatDoorM1
set_option linter.unusedSimpArgs false
set_option linter.unusedVariables false
namespace Go.Proofs.YtakcdebpklffiaaGreatDoor
open Go.Vc Go.RowKit Go.Sei
open Go.Sort
theorem zro{l s:List FinV}{a b:FinV}(h:zb4 l=b::s):zb4 (a::l)=if a=b then b::s else a::b::s:=by
 unfold zb4;rw[h]
theorem zm8:∀(l:List FinV) (a:FinV),a::zbz a l=zb4 (a::l)
 | [],a=>rfl
 | b::r,a=>by
  have c:=zm8 r b;rw[zro c.symm];by_cases e:b=a
  ·subst e;rw[zbz,Gn rfl,Gn rfl]
  ·rw[zbz,Gm e,Gm (fun h:a=b=>e h.symm)]
theorem zrl(l:List FinV):zej l=zb4 l:=by
 cases l with
 | nil=>rfl
 | cons a r=>exact zm8 r a
theorem zh1:zh2 []=[]:=by unfold zh2;simp
theorem znz{q:OA}{cap:Nat}{w:Wd}:Calls PG 87 #[.slice q 0 cap] w fun e w'=>e = .returned (.slice q 0 cap)/\w=w':=by
 refine zD 61 [.slice q 0 cap] Tryz.func87 ?_;exact brT ⟨rfl,rfl⟩
section
variable{w:Wd}{p:OA}{cap:Nat}{l:List FinV}
theorem zt5(hl:SlR zx w p l)(hn:l.length<=1000000)(hp:p=none->cap=0):Calls PG 45 #[.slice p l.length cap] w fun e w'=>∃q c,e = .returned (.slice q (zbx l).length c)/\OwnS zx 52 w.heap.size w' q c (zbx l)/\Bw w w':=by
 refine qA 11 [.slice p l.length cap] (.s .p (.c .p (.c .p .p))) Tryz.func45 ?_;refine⟨OA×Nat,fun s=>⟨[(3,.slice s.1 l.length s.2)],[]⟩,fun s X=>OwnS zx 52 w.heap.size X s.1 s.2 l/\Bw w X,?_,?_⟩
 ·refine⟨⟨by decide,by decide,rfl⟩,[.slice p l.length cap],rfl,?_⟩;have f0:=zt w (.cells #[.slice p l.length cap] 40);have hb:Bw w (w.alloc (.cells #[.slice p l.length cap] 40)):=zba w _;have ht:zbe [(⟨p,cap,l⟩:Part)]=l:=by unfold zbe;simp
  have z:SlR zfG (w.alloc (.cells #[.slice p l.length cap] 40)) (some ⟨w.heap.size,0,none⟩) [(⟨p,cap,l⟩:Part)] := .inr ⟨w.heap.size,0,rfl,hlt f0,fun i hi=>by
   have k:i=0:=by simpa using hi
   subst k;exact za f0⟩
  have hc:=zug (some ⟨w.heap.size,0,none⟩) 1 [(⟨p,cap,l⟩:Part)] (w.alloc (.cells #[.slice p l.length cap] 40)) z (fun x hx=>by
   simp only[UA,Qs,Gk] at hx;subst hx;exact⟨hl.below hb,hp⟩) (by rw[ht];omega) (JQ rfl)
  refine cmo hc ?_;rintro e Y ⟨p',r,rfl,a,f⟩;rw[ht] at a;rw[ht];exact⟨(p',r),(cvE rfl rfl),a.lower hb.size,(zst hb f)⟩
 rintro⟨q,c⟩ X ⟨b,j⟩;dsimp only at b;refine⟨OA×Nat,fun s=>⟨[(3,.slice s.1 (zh2 l).length s.2)],[]⟩,fun s X=>OwnS zx 52 w.heap.size X s.1 s.2 (zh2 l)/\Bw w X/\(l≠[]->∃g,s.1=some ⟨g,0,none⟩/\w.heap.size<=g),?_,?_⟩
 ·have d:(zh2 l).length=l.length:=(List.mergeSort_perm l leF).length_eq;by_cases k:l=[]
  ·subst k;refine cmo (Tryz.slices_SortFunc_none (α:=FinV) q c _ X) ?_;rintro e _ ⟨rfl,rfl⟩;rw[zh1];exact⟨(q,c),(cvE rfl rfl),b,j,fun h=>Gp rfl h⟩
  ·rcases b.inv with⟨_,_,h⟩ | ⟨g,ae,rfl,u,_⟩
   ·exact Gp h k
   have aa:g<X.heap.size:=by
    rcases b.inv with⟨h,_⟩ | ⟨g',ad,h,_,hh,_⟩
    ·cases h
    ·cases h;exact hlt hh
   have hc:CmpLays PG 86 #[] zx.enc 38 zgA g 0 l.toArray.size X:=fun m os dk _ x y=>by
    refine(zuO (F:=x) (G:=y)).mono ?_;rintro e w' ⟨rfl,q,ac,rfl⟩;exact⟨rfl,q,ac,rfl⟩
   have z:=Tryz.slices_SortFunc_total (α:=FinV) 38 (fun w=>Tryz.isAgg52 w) (fun w=>Tryz.sizeOf52 w) zx.enc zx.len zx.one zgA zu1 86 #[] g 0 c l.toArray X
    (fun o w=>(zgn 0).call 86 (by decide) (by decide) (by decide) o w) hc (zor b) aa (by simp;omega) zq1
   rw[KW] at z;refine cmo z ?_;rintro e _ ⟨rfl,n,os,rfl⟩;have v:=znM (l':=zh2 l) b d n os;have e1:(l.toArray.toList.mergeSort fun x y => !(ltOf zgA) y x)=zh2 l:=rfl;rw[e1];exact⟨(some ⟨g,0,none⟩,c),⟨.cons (by rw[d];rfl) .nil,rfl⟩,v.1,j.trans (zl v.2 j.size u),fun _=>⟨g,rfl,u⟩⟩
 rintro⟨q,c⟩ Y ⟨a,f,u⟩;dsimp only at a u;have d:(zh2 l).length=l.length:=(List.mergeSort_perm l leF).length_eq;by_cases k:l=[]
 ·subst k;have e1:zbx []=[]:=by unfold zbx;rw[zh1];rfl
  rw[zh1] at a ⊢;rw[e1];refine cmo (znz (q:=q) (cap:=c) (w:=Y)) ?_;rintro e _ ⟨rfl,rfl⟩;exact⟨q,c,rfl,a,f⟩
 ·obtain⟨g,rfl,ab⟩:=u k;refine cmo (zoS a (by omega)) ?_;rintro e Z ⟨rfl,t,gZ⟩;rw[zrl] at t ⊢;exact⟨_,_,rfl,t,f.trans (zl gZ f.size ab)⟩
end
end Go.Proofs.YtakcdebpklffiaaGreatDoor
namespace Go.Proofs.YtakcdebpklffiaaGreatDoor
open Go.Vc Go.RowKit Go.Sei
def zdC (ask:UInt8) (c:Cnd) (l:List FinV):Nat:=if ask=1\/ask=2\/ask=3 then zfM c l else 0
theorem zrC(a:UInt8):decide (((a.toNat:Nat):Int)<1)=false->decide (3<((a.toNat:Nat):Int))=false->a=1\/a=2\/a=3:=fun b d=>by
 have b:=dF b;have d:=dF d;have h:a.toNat=1\/a.toNat=2\/a.toNat=3:=by omega
 rcases h with h | h | h
 ·exact .inl (Ud.1 h)
 ·exact .inr (.inl (Ud.1 h))
 ·exact .inr (.inr (Ud.1 h))
theorem znt{a:UInt8}(h:a=1\/a=2\/a=3):1<=a.toNat/\a.toNat<=3:=by
 rcases h with rfl | rfl | rfl <;> decide
theorem zmV{α:Type}{p:α->Bool}{l:List α}{i:Nat}(h:i<l.length):((l.take (i+1)).filter p).length=((l.take i).filter p).length+if p l[i]=true then 1 else 0:=by
 rw[tsg h,Kw,lap,Qk]
 split <;> rfl
theorem zpE{a b:Nat}:decide ((a:Int)=(b:Int))=decide (a=b):=QC.2 Int.ofNat_inj
theorem zln{α:Type}{p:α->Bool}{l:List α}{i:Nat}:((l.take i).filter p).length<=i:=UL (JK ..) (by rw[Qr];omega)
section
variable{w:Wd}{c:Cnd}{q:OA}{cap:Nat}{p:OA}{cl:Nat}{l:List FinV}{ask:UInt8}
theorem zjn(hk:KidsG w.heap.size w q c.kids)(hl:SlR zx w p l)(hn:l.length<=1000000)(hp:p=none->cl=0):Calls PG 41 #[u8 ask,zbK c q cap,.slice p l.length cl] w fun e w' =>
  e = .returned (.tuple #[.bool (zhu ask c l),i64 (zdC ask c l)])/\Bw w w':=by
 refine qA 47 [u8 ask,zbK c q cap,.slice p l.length cl] (.s .p (.s .p (.c .p (.s .p (.c (.s .p (.b (.l (.s .p (.s .p (.s (.b (.c .p .p)) .p)))))) .p))))) Tryz.func41 ?_;have f4:=zt w (.cells (zu c q cap).toArray 27);have t:Bw w (w.alloc (.cells (zu c q cap).toArray 27)):=zba w _;obtain⟨S,hS⟩:=nm (zbx l);have ad:¬(ask=1\/ask=2\/ask=3)->zhu ask c l=false/\zdC ask c l=0:=fun h=>by
  unfold zhu zdC;rw[Gm fun e=>h (.inl e),Gm fun e=>h (.inr (.inl e)),Gm fun e=>h (.inr (.inr e)),Gm h];exact⟨rfl,rfl⟩
 have g:¬(ask=1\/ask=2\/ask=3)->Ending.returned (.tuple #[.bool false,.int .i64 0])=Ending.returned (.tuple #[.bool (zhu ask c l),i64 (zdC ask c l)]):=fun h=>by
  rw[(ad h).1,(ad h).2];rfl
 have go:(ask=1\/ask=2\/ask=3)->∀{P:Prop},P->P:=fun _ _ h=>h;refine biE (fun h=>?_) fun h=>?_
 ·have h:((ask.toNat:Nat):Int)<1:=dT h;exact brT ⟨g fun e=>by have:=znt e;omega,t⟩
 refine biE (fun j=>?_) fun j=>?_
 ·have j:3<((ask.toNat:Nat):Int):=dT j;exact⟨g fun e=>by have:=znt e;omega,t⟩
 have aa:=zrC ask h j;clear h j ad g go;refine⟨OA×Nat,fun s=>⟨[(0,u8 ask),(2,.slice s.1 S.length s.2),(4,At0 w.heap.size)],[]⟩,fun s X=>SlR zx X s.1 S/\X.heap[w.heap.size]?=some (.cells (zu c q cap).toArray 27 (0,0))/\Bw w X,?_,?_⟩
 ·refine cmo (zt5 (hl.below t) hn hp) ?_;rintro e Y ⟨q',c',rfl,am,a⟩;exact⟨(q',c'),⟨.cons rfl (.cons (by rw[hS];rfl) (.cons rfl .nil)),rfl⟩,by rw[hS];exact OwnS.row am,zb a f4,(zst t a)⟩
 rintro⟨q',c'⟩ X ⟨hl,f4,ai⟩;dsimp only at hl;have hm:((S.filter fun f=>qP f 20 c).length)=zfM c l:=by rw[hS];rfl
 have aq:S.length<=1000000:=by
  rw[hS];exact UL (zjZ (zra (zgk l)) fun x hx=>zca.1 hx) hn
 refine⟨Unit,fun _=>⟨[(0,u8 ask),(2,.slice q' S.length c'),(8,i64 (zfM c l:Nat))],[]⟩,fun _ Y=>Bw w Y,?_,?_⟩
 ·refine⟨Nat,fun k=>⟨[(0,u8 ask),(2,.slice q' S.length c'),(4,At0 w.heap.size),(8,i64 (((S.take k).filter fun f=>qP f 20 c).length:Nat)),(19,.slice q' S.length c'),(20,i64 S.length),(21,i64 k)],[]⟩,
   fun k Y=>k<=S.length/\SlR zx Y q' S/\Y.heap[w.heap.size]?=some (.cells (zu c q cap).toArray 27 (0,0))/\Bw w Y,fun k=>S.length-k,0,(cvE rfl rfl),⟨UZ _,hl,f4,ai⟩,?_⟩
  rintro k Y ⟨ap,ae,f4,a⟩;refine biE (fun h=>?_) fun h=>?_
  ·have m:k<S.length:=by have:=dT h;omega
   clear h;obtain⟨b,o,rfl,ak,aj⟩:=ae.at m;obtain⟨F,hF⟩:=nm (S[k]);have ab:=aj k m;rw[<- hF] at ab;refine⟨Nat,fun s=>⟨[(0,u8 ask),(2,.slice (some ⟨b,o,none⟩) S.length c'),(4,At0 w.heap.size),(8,i64 (((S.take k).filter fun f=>qP f 20 c).length:Nat)),(10,At0 s),(19,.slice (some ⟨b,o,none⟩) S.length c'),(20,i64 S.length),(21,i64 k)],[]⟩,
    fun s Z=>Z.heap[s]?=some (.cells (zx.enc F).toArray 52 (0,0))/\Bw Y Z,?_,?_⟩
   ·refine⟨k,rfl,m,zx.enc F,zx.len F,ab,ak,?_⟩;have r:=zt Y (.cells (List.replicate 38 (.int .u8 0)).toArray 52);exact zp (v:=zaq F) k52 r (by show(zx.enc F).length=38;exact zx.len F) rfl (Qg.2 fun v hv=>zx.one F v hv) ⟨Y.heap.size,(cvE rfl rfl),zn r,zk ((zba Y _)) (UW _) _⟩
   rintro ao Z ⟨r,ac⟩;have af:=zb ac f4;have u:=zst a ac;refine⟨zu c q cap,rfl,za af,hlt af,zx.enc F,zx.len F,za r,hlt r,cmo (zf9 ((hk.kept u).wider u.size)) ?_⟩;rintro e U ⟨rfl,ah⟩;have d:=zst ac ah;have z:=zst a d;have n:=zmV (p:=fun f=>qP f 20 c) m;have an:=zln (p:=fun f=>qP f 20 c) (l:=S) (i:=k);rw[<- hF] at n;refine biE (fun h=>?_) fun h=>?_
   ·rw[Gn h] at n;exact⟨_,ze (by omega),_,ze (by omega),k+1,⟨.cons rfl (.cons rfl (.cons rfl (.cons (by rw[n];rfl) (.cons rfl (.cons rfl (.cons rfl .nil)))))),rfl⟩,⟨m,ae.below d,zb d f4,z⟩,by dsimp only;omega⟩
   ·rw[Gm (by rw[h];decide)] at n;exact⟨_,ze (by omega),k+1,⟨.cons rfl (.cons rfl (.cons rfl (.cons (by rw[n];rfl) (.cons rfl (.cons rfl (.cons rfl .nil)))))),rfl⟩,⟨m,ae.below d,zb d f4,z⟩,by dsimp only;omega⟩
  ·have ag:k=S.length:=by have:=dF h;omega
   subst ag;exact⟨(),⟨.cons rfl (.cons rfl (.cons (by rw[<- hm];show some (i64 (((S.take S.length).filter fun f=>qP f 20 c).length:Nat))=_;rw[Qt]) .nil)),rfl⟩,a⟩
 rintro _ Y a;have al:zdC ask c l=zfM c l:=Gn aa;rw[al];refine biE (fun h=>?_) fun h=>?_
 ·have h:ask=1:=dT ((zcf (x:=ask) (y:=1)).symm.trans h);refine⟨?_,a⟩;unfold zhu;rw[Gn h,<- ze5];rfl
 have h:¬ask=1:=dF ((zcf (x:=ask) (y:=1)).symm.trans h);refine biE (fun j=>?_) fun j=>?_
 ·have j:ask=2:=dT ((zcf (x:=ask) (y:=2)).symm.trans j);refine⟨?_,a⟩;unfold zhu;rw[Gm h,Gn j,<- zpE];rfl
 ·have j:¬ask=2:=dF ((zcf (x:=ask) (y:=2)).symm.trans j);refine⟨?_,a⟩;unfold zhu;rw[Gm h,Gm j,Gn (aa.resolve_left h |>.resolve_left j),<- hS,<- zpE];rfl
end
theorem za3{X:Wd}{b:Nat}{r:RelD}(f:X.heap[b]?=some (.cells (zf r).toArray 76 (0,0))){i:Nat}(h:i<48):X.cell? ⟨b,0+1+i*1,none⟩=some (s64 (r.to i)):=by
 rw[UX,UB];exact zc (za f) (zfB r h)
theorem jz{r:RelD}(h:okR r=true):0<=r.n/\r.n<=48/\∀a,a<48->je (r.to a) (zaT r.n)=0/\((a:Int)<r.n\/r.to a=0):=by
 unfold okR at h;rw[bAT,bAT,dE,dE,Qg] at h;refine⟨h.1,h.2.1,fun a b=>?_⟩;have:=h.2.2 a (Ul.2 b);unfold zcj at this;rw[bAT,QD,dE,dE,dE] at this;exact this
theorem zbU{n:Int}(h0:0<=n)(h:n<=64){i:Nat}(hi:i<64):(zaT n).testBit i=decide ((i:Int)<n):=by
 unfold zaT
 split
 ·rw[QA,Ue (by omega)]
 split
 ·rw[show 18446744073709551615=2^64-1 from rfl,Nat.testBit_two_pow_sub_one];rw[Up hi,Up (by omega)]
 ·rw[Nat.testBit_two_pow_sub_one];apply QC.2;omega
theorem zla{r:RelD}(h:okR r=true)(hr:zK r.to){a i:Nat}(ha:a<48)(hb:(r.to a).testBit i=true):(i:Int)<r.n/\(a:Int)<r.n:=by
 obtain⟨f,g,c⟩:=jz h;obtain⟨j,b⟩:=c a ha;have d:i<64:=by
  apply Qw;intro d;have:=JF (nL (hr a ha) (Ke (by decide) d));rw[this] at hb;cases hb
 refine⟨?_,?_⟩
 ·have e:(je (r.to a) (zaT r.n)).testBit i=false:=by rw[j];exact QA i
  rw[zbi (za7 _) d,hb,zbU f (by omega) d] at e;simpa using e
 ·rcases b with b | b
  ·exact b
  ·rw[b,QA] at hb;cases hb
theorem zk9{r:RelD}(h:okR r=true)(hr:zK r.to){a:Nat}(ha:a<48):∀i∈els (r.to a),(i:Int)<r.n/\i<48:=fun i b=>by
 have c:=(zla h hr ha (jf.1 b).2).1;have:=(jz h).2.1;exact⟨c,by omega⟩
theorem zcr{s:Nat}(h0:s≠0)(h:s<2^64):(els s).headD 0=ctz s/\(els s).isEmpty=false:=by
 rw[(j5 h0 h).1];exact⟨rfl,rfl⟩
theorem zdG{s:Nat}(h:s<2^64)(he:(els s).isEmpty=true):s=0:=by
 apply Jo;intro a;rw[(zcr a h).2] at he;cases he
theorem zfW{s:Nat}(h:s<2^64)(he:(!(els s).isEmpty)=true):s≠0:=fun a=>by
 subst a;rw[zaC] at he;cases he
theorem zeL{n:Nat}{f:Nat->Nat}(h:∀i,i<n->i<48->f i<2^64):zK (jT n f).to:=fun i a=>by
 unfold jT;dsimp only
 split
 ·rename_i b;exact h i b a
 ·decide
theorem zmO{to:Nat->Nat}(ht:zK to):∀(l:List Nat) (t:Nat),t<2^64->(∀i∈l,i<48)->l.foldl (fun t a=>t|||to a) t<2^64
 | [],t,h,_=>h
 | x::l,t,h,hl=>by
  rw[QI];exact zmO ht l _ (KX h (ht x (hl x KA))) fun i b=>hl i (JV _ b)
section
variable{ra rb:RelD}{w:Wd}
theorem zuf{ba bb i a b:Nat}(fa:w.heap[ba]?=some (.cells #[s64 a] 73 (0,0)))(fb:w.heap[bb]?=some (.cells #[s64 b] 73 (0,0)))(hi:i<48) :
  CB 200 (i64 (i:Nat)::[At0 ba,At0 bb]).toArray w (s64 (if a.testBit i then b else 0)):=by
 refine zD 11 (i64 (i:Nat)::[At0 ba,At0 bb]) Tryz.func200 ?_;refine⟨_,zc (za fa) (i:=0) rfl,by omega,_,zhw (k:=i) (by omega),?_⟩;have d:IntKind.u64.wrap ((BitVec.ofInt IntKind.u64.bits ((a/2^i:Nat):Int)&&&BitVec.ofInt IntKind.u64.bits (1:Int)).toNat:Int)=((a/2^i&&&1:Nat):Int):=by
  show IntKind.u64.wrap ((BitVec.ofInt 64 ((a/2^i:Nat):Int)&&&BitVec.ofInt 64 (1:Int)).toNat:Int)=_;rw[Qe,show(BitVec.ofInt 64 (1:Int)).toNat=1 from rfl,KE,KE,Kt];have c:(((a/2^i:Nat):Int)%((2^64:Nat):Int)).toNat=(a/2^i)%2^64:=by
   rw[<- Int.natCast_emod,KK]
  rw[c];generalize a/2^i=m;rw[w64 (by omega)];omega
 refine⟨_,d,?_⟩;rw[zlE];refine biE (fun h=>?_) fun h=>?_
 ·have h:a.testBit i=false:=by
   cases hc:a.testBit i with
   | false=>rfl
   | true =>
    rw[hc] at h;exact Gp h (by decide)
  exact⟨by rw[h];rfl,Gb _ _⟩
 ·have h:a.testBit i=true:=by
   cases hc:a.testBit i with
   | true=>rfl
   | false =>
    rw[hc] at h;exact Gp h (by decide)
  exact⟨_,zc (za fb) (i:=0) rfl,by rw[h];rfl,Gb _ _⟩
theorem zwd{n a b:Nat}(hn:n<=48)(ha:a<2^64)(hb:b<2^64):CB 133 #[i64 n,s64 a,s64 b] w (.agg (zf (zjb n a b)).toArray):=by
 refine qA 21 [i64 n,s64 a,s64 b] (.c .p (.s .p (.s .p .p))) Tryz.func133 ?_;obtain⟨L,f⟩:=nm (w.heap.size);refine⟨Unit,fun _=>⟨[(0,i64 n),(4,At0 L),(5,At0 (L+1)),(6,At0 (L+2))],[]⟩,fun _ X=>X.heap[L]?=some (.cells #[s64 a] 73 (0,0))/\X.heap[L+1]?=some (.cells [s64 b].toArray 73 (0,0))/\X.heap[L+2]?=some (.cells (zf zC).toArray 76 (0,0))/\Bw w X,?_,?_⟩
 ·have s1:=wz w (.cells #[s64 a] 73);have r:=wz (w.alloc (.cells #[s64 a] 73)) (.cells #[s64 b] 73);have y:=zt (w.alloc (.cells #[s64 a] 73)) (.cells #[s64 b] 73);have h3:=zt ((w.alloc (.cells #[s64 a] 73)).alloc (.cells #[s64 b] 73)) (.cells (zf zC).toArray 76);rw[s1] at r y;rw[r] at h3;refine⟨(),⟨.cons rfl (.cons (by rw[f];rfl) (.cons (by rw[f,<- s1];rfl) (.cons (by rw[f,<- r];rfl) .nil))),rfl⟩,?_,?_,?_,?_⟩
  ·rw[f];exact qO _ (qO _ (zt w _))
  ·rw[f];exact qO _ y
  ·rw[f];exact h3
  ·exact(((zba w _)).alloc (by simp) _).alloc (by simp;omega) _
 rintro _ X ⟨z,t,u,g⟩;refine brN (Ue (by omega)) (brN (Ue (by omega)) (DrawE.ord [4] [0,1,2,3,4] (by kernel_rfl) ⟨_,zc (za (hdr t)) (i:=0) rfl,cmo zkE ?_⟩));rintro e _ ⟨rfl,rfl⟩;refine⟨Gb _ _,_,zac (a:=b) (b:=zaT n) hb (za7 _),?_⟩;have hd:Bw X X.drew:=(Gb _ X).drew;refine zm k73 (hdr t) (o:=0) (v:=s64 (b&&&zaT n)) rfl rfl (by show 0<1;decide) rfl fun Y l j sY=>?_;have l:Y.heap[L+1]?=some (.cells #[s64 (b&&&zaT n)] 73 (0,0)):=l;have q:Bw w Y:=((zst g hd)).trans (zl j g.size (by omega));have m:=(j.block L (hlt (hdr z)) (by simp)).trans (hdr z);have k:=(j.block (L+2) (hlt (hdr u)) (by simp)).trans (hdr u);refine cmo (zlC (w:=Y) (n:=n) (row:=fun x=>if a.testBit x then b&&&zal n else 0) hn (by kernel_rfl) (fun i Z hi d=>zuf (zb d m) (zb d l) (by omega))) ?_;rintro e Z ⟨rfl,d⟩;have h:=zb d k;exact zp (v := .agg (zf (zjb n a b)).toArray) k76 h rfl rfl (zH _) ⟨zf (zjb n a b),zg _,za (zn h),rfl,zk ((zst q d)) (by omega) _⟩
end
theorem zhy{f:Nat->Nat}(h:zK f){i v:Nat}(hv:v<2^64):zK (upd f i v):=fun j a=>by
 by_cases e:j=i
 ·rw[e,zN];exact hv
 ·rw[qx _ _ e];exact h j a
def zwu (a:Nat) (l:List Nat) (f:Nat->Nat):Nat->Nat:=l.foldl (fun f b=>upd f b (f b|||2^a)) f
section
variable{r:RelD}{w:Wd}
theorem zjt(hr:zK r.to)(hT:Tz64M w):Calls PG 116 #[.agg (zf r).toArray] w fun e w'=>e = .returned (.agg (zf (z6 r)).toArray)/\Bw w w'/\zK (z6 r).to:=by
 refine qA 50 [.agg (zf r).toArray] (.c .p (.s .p (.s .p (.c .p .p)))) Tryz.func116 ?_;obtain⟨L,hL⟩:=nm (w.heap.size);refine⟨Unit,fun _=>⟨[(1,At0 L),(2,At0 (L+1))],[]⟩,fun _ X=>X.heap[L]?=some (.cells (zf r).toArray 76 (0,0))/\X.heap[L+1]?=some (.cells (zf zC).toArray 76 (0,0))/\X.heap.size=L+2/\Bw w X,?_,?_⟩
 ·have s1:=wz w (.cells (zf r).toArray 76);have h2:=zt (w.alloc (.cells (zf r).toArray 76)) (.cells (zf zC).toArray 76);have s2:=wz (w.alloc (.cells (zf r).toArray 76)) (.cells (zf zC).toArray 76);rw[s1] at h2 s2;refine⟨(),⟨.cons (by rw[hL];rfl) (.cons (by rw[hL,<- s1];rfl) .nil),rfl⟩,?_,?_,?_,?_⟩
  ·rw[hL];exact qO _ (zt w _)
  ·rw[hL];exact h2
  ·rw[hL];exact s2
  ·exact((zba w _)).alloc (by simp) _
 rintro _ X ⟨f0,f1,sX,ai⟩;refine⟨zf r,zg _,za f0,hlt f0,cmo (j9 hr) ?_⟩;rintro e Y ⟨rfl,u⟩;have x:=zst ai u;have aa:=zb u f0;have z:=zb u f1;refine biE (fun h=>?_) fun h=>?_
 ·have h:okR r=false:=by
   have h:(!okR r)=true:=h;simpa using h
  have e:z6 r=zC:=by unfold z6;rw[h];rfl
  rw[e];exact⟨zf zC,rfl,zp (v := .agg (zf zC).toArray) k76 z rfl rfl (zH _) ⟨zf zC,zg _,za (zn z),rfl,zk x (by omega) _,fun i _=>(by decide:0<2^64)⟩⟩
 have h:okR r=true:=by
  have h:(!okR r)=false:=h;simpa using h
 obtain⟨p0,aq,_⟩:=jz h;obtain⟨n,hn⟩:∃n:Nat,r.n=n:=⟨r.n.toNat,by omega⟩;have ao:n<=48:=by omega
 have e0:z6 r=⟨n,za0 r.to n⟩:=by unfold z6;rw[Gn h,hn];rfl
 rw[e0];have ak:Y.cell? ⟨L,0+0,none⟩=some (i64 n):=by rw[<- hn];exact zc (za aa) (i:=0) rfl
 refine⟨i64 n,ak,zf ⟨n,fun _=>0⟩,rfl,?_⟩;have sY:=u.size;refine zo (X:=Y) (v := .agg (zf ⟨n,fun _=>0⟩).toArray) k76 rfl rfl (zH _) fun Z m fZ sZ=>?_;obtain⟨M,hM⟩:=nm (Y.heap.size);rw[<- hM] at fZ sZ;have pM:some (Value.pointer (some ⟨Y.heap.size,0,none⟩))=some (At0 M):=by rw[hM]
 have j:=zst x m;refine⟨Unit,fun _=>⟨[(1,At0 L),(2,At0 (L+1)),(3,At0 M)],[]⟩,fun _ V=>V.heap[M]?=some (.cells (zf ⟨n,za0 r.to n⟩).toArray 76 (0,0))/\V.heap[L+1]?=some (.cells (zf zC).toArray 76 (0,0))/\Bw w V/\zK (za0 r.to n),?_,?_⟩
 ·refine⟨i64 n,by rw[<- hn];exact zc (za (zb m aa)) (i:=0) rfl,?_⟩;refine⟨Nat,fun k=>⟨[(1,At0 L),(2,At0 (L+1)),(3,At0 M),(16,i64 n),(17,i64 (k:Nat))],[]⟩,
   fun k V=>k<=n/\V.heap[M]?=some (.cells (zf ⟨n,za0 r.to k⟩).toArray 76 (0,0))/\zK (za0 r.to k)/\Below M Z V,fun k=>n-k,0,
   ⟨.cons rfl (.cons rfl (.cons pM (.cons rfl (.cons rfl .nil)))),rfl⟩,⟨UZ _,fZ,fun i _=>(by decide:0<2^64),Gb _ _⟩,?_⟩
  rintro k V ⟨hk,fV,af,f⟩;have sV:=f.size;refine biE (fun t=>?_) fun t=>?_
  ·have t:(k:Int)<(n:Int):=dT t;have al:k<n:=by omega
   have step:za0 r.to (k+1)=zwu k (els (r.to k)) (za0 r.to k):=by
    unfold za0;rw[QS,KS];rfl
   have ah:=zk9 h hr (a:=k) (by omega);have am:V.heap[L]?=some (.cells (zf r).toArray 76 (0,0)):=(f.block L (by omega)).trans (zb m aa);have aj:Tz64M V:=hT.below (j.trans (f.mono (by omega)));refine⟨k,rfl,by omega,?_⟩;refine⟨_,za3 am (by omega),cmo (zbu (hr k (by omega)) aj) ?_⟩;rintro e U ⟨rfl,ae⟩;refine⟨(Nat->Nat)×Nat,fun q=>⟨[(1,At0 L),(2,At0 (L+1)),(3,At0 M),(4,i64 (k:Nat)),(5,s64 q.2),(6,i64 ((els q.2).headD 0:Nat)),(7,.bool (!(els q.2).isEmpty)),(16,i64 n),(17,i64 (k:Nat))],[]⟩,
    fun q T=>(za0 r.to (k+1)=zwu k (els q.2) q.1/\zK q.1/\q.2<2^64/\∀b∈els q.2,b<48)/\T.heap[M]?=some (.cells (zf ⟨n,q.1⟩).toArray 76 (0,0))/\Below M Z T,fun q=>q.2,(za0 r.to k,r.to k),
    (cvE rfl rfl),⟨⟨step,af,hr k (by omega),fun b hb=>(ah b hb).2⟩,zb ae fV,f.trans (ae.mono (by omega))⟩,?_⟩
   rintro⟨g,q⟩ T ⟨⟨y,hg,hq,l⟩,fT,ac⟩;dsimp only at y hg hq l fT ⊢;have sT:=ac.size;refine biE (fun t=>?_) fun t=>?_
   ·have h0:=zfW hq t;obtain⟨e1,e2,_,e3⟩:=j5 h0 hq;have hd:=(zcr h0 hq).1;have d:ctz q<48:=l _ (by rw[e1];exact KA);rw[hd];refine DrawE.ord [9] [0,1,2,3,4,5,6,7,8,9] (by kernel_rfl) ⟨ctz q,rfl,d,_,za3 (hdr fT) d,by omega,_,zab (e:=k) (by omega),_,zau (hg _ d) (qc (by omega)),ctz q,rfl,d,zm k73 (hdr fT) (o:=0+1+ctz q*1) (v:=s64 (g (ctz q)|||2^k)) rfl rfl (by rw[zg];omega) rfl fun S fS gS sS=>?_⟩;rw[UQ,UX,zfA _ d] at fS;have an:Bw T T.drew:=(Gb _ T).drew;have ab:Below M Z S:=(ac.trans (an.mono (show M<=T.heap.size by omega))).trans (zl gS (show M<=T.heap.size by omega) (UW _));refine⟨((q-1:Nat):Int),(w64 (a:=(q:Int)-1) (by omega)).trans (by omega),((qM q:Nat):Int),zac (a:=q) (b:=q-1) hq (by omega),cmo (zbu (s:=qM q) (by omega) (hT.below (j.trans (ab.mono (by omega))))) ?_⟩;rintro e R ⟨rfl,ag⟩;have ap:=ab.size;refine⟨(upd g (ctz q) (g (ctz q)|||2^k),qM q),(cvE rfl rfl),⟨⟨?_,zhy hg (KX (hg _ d) (qc (by omega))),by show qM q<_;omega,fun b hb=>l b (by rw[e1];exact JV _ hb)⟩,zb ag fS,ab.trans (ag.mono (by omega))⟩,e2⟩;rw[y,e1];rfl
   ·have t:(els q).isEmpty=true:=(by simpa using t);have:=zdG hq t;subst this;rw[zaC] at y;have y:za0 r.to (k+1)=g:=y;exact nxI (by omega) ⟨k+1,(cvE rfl rfl),⟨al,by rw[y];exact fT,by rw[y];exact hg,ac⟩,zdc (by omega)⟩
  ·have t:¬(k:Int)<(n:Int):=dF t;obtain rfl:k=n:=by omega
   exact⟨(),(cvE rfl rfl),fV,(f.block (L+1) (by omega)).trans (zb m z),j.trans (f.mono (by omega)),af⟩
 clear fZ sZ pM j m Z;rintro _ V ⟨fM,ad,f,hw⟩;exact⟨zf ⟨n,za0 r.to n⟩,zg _,za fM,hlt fM,zp (v := .agg (zf ⟨n,za0 r.to n⟩).toArray) k76 ad rfl rfl (zH _) ⟨zf ⟨n,za0 r.to n⟩,zg _,za (zn ad),rfl,zk f (by omega) _,hw⟩⟩
theorem zrf{p:Nat->Bool}{x:Nat}{l:List Nat}:(x::l).find? p=if p x then some x else l.find? p:=by
 rw[List.find?_cons]
 cases p x <;> rfl
theorem zw5{b left:Nat}(f:w.heap[b]?=some (.cells (zf r).toArray 76 (0,0)))(hr:zK r.to)(hs:left<2^64)(h48:∀i∈els left,i<48)(hT:Tz64M w) :
  CB 278 #[At0 b,s64 left] w (.tuple #[i64 ((zcH r.to left).getD 0:Nat),.bool (zcH r.to left).isSome]):=by
 refine zD 35 [At0 b,s64 left] Tryz.func278 ?_;refine cmo (zbu hs hT) ?_;rintro e X ⟨rfl,c⟩;refine⟨Nat,fun q=>⟨[(0,At0 b),(1,s64 left),(6,s64 q),(7,i64 ((els q).headD 0:Nat)),(8,.bool (!(els q).isEmpty))],[]⟩,
  fun q Y=>zcH r.to left=(els q).find? (fun a=>decide (r.to a&&&left=0))/\(q<2^64/\∀i∈els q,i<48)/\Bw w Y,fun q=>q,left,
  (cvE rfl rfl),⟨rfl,⟨hs,h48⟩,c⟩,?_⟩
 clear c X;rintro q X ⟨d,⟨k,h48⟩,c⟩;refine biE (fun j=>?_) fun j=>?_
 ·have n:=zfW k j;obtain⟨m,u,_,v⟩:=j5 n k;have o:=(zcr n k).1;have g:ctz q<48:=h48 _ (by rw[m];exact KA);have t:=zb c f;refine⟨ctz q,Gi Nat.cast o.symm,g,_,za3 t g,_,zac (hr _ g) hs,?_⟩;rw[m,zrf] at d;refine biE (fun h=>?_) fun h=>?_
  ·have h:r.to (ctz q)&&&left=0:=Uw (dT h);rw[Up h] at d;have d:zcH r.to left=some (ctz q):=d;exact⟨by rw[d,<- o];rfl,c⟩
  ·have h:¬r.to (ctz q)&&&left=0:=fun e=>by
    have h:¬(((r.to (ctz q)&&&left:Nat):Int)=0):=dF h;exact h (by rw[e];rfl)
   rw[Ue h] at d;refine⟨((q-1:Nat):Int),(w64 (a:=(q:Int)-1) (by omega)).trans (by omega),((qM q:Nat):Int),zac (a:=q) (b:=q-1) k (by omega),cmo (zbu (s:=qM q) (by omega) (hT.below c)) ?_⟩;rintro e Y ⟨rfl,l⟩;exact⟨qM q,(cvE rfl rfl),⟨d,⟨by omega,fun i p=>h48 i (by rw[m];exact JV _ p)⟩,(zst c l)⟩,u⟩
 ·have j:(els q).isEmpty=true:=by simpa using j
  have:=zdG k j;subst this;rw[zaC] at d;have d:zcH r.to left=none:=d;exact⟨by rw[d];rfl,c⟩
end
theorem zeg{s a:Nat}(hs:s<2^64)(ha:a∈els s):els (je s (2^a))=(els s).filter (fun i => !decide (i=a)):=by
 have b:=zox ha;unfold els;rw[List.filter_filter];apply KQ;intro i c;rw[zbi (qc b) (Ul.1 c),Kq,Bool.and_comm];congr 2;exact QC.2 ⟨fun h=>h.symm,fun h=>h.symm⟩
theorem zaL{s a:Nat}(hs:s<2^64)(ha:a∈els s):(els (je s (2^a))).length<(els s).length:=by
 rw[zeg hs ha];exact List.length_filter_lt_length_iff_exists.2 ⟨a,ha,by simp⟩
theorem zsX{s a:Nat}(hs:s<2^64)(ha:a∈els s):je s (2^a)<s:=by
 have b:je s (2^a)<=s:=QU;have c:je s (2^a)≠s:=fun e=>by
  have:=zaL hs ha;rw[e] at this;omega
 omega
theorem zeH{n:Nat}(h:n<=64):els (zaT n)=List.range n:=by
 have e:∀i∈List.range 64,(zaT n).testBit i=decide (i<n):=fun i a=>by
  rw[zbU (by omega) (by omega) (Ul.1 a)];exact QC.2 (by omega)
 unfold els;rw[KQ e];obtain⟨m,b⟩:∃m,64=n+m:=⟨64-n,by omega⟩;rw[b,List.range_add,Kw];have c:(List.range n).filter (fun i=>decide (i<n))=List.range n:=by
  rw[List.filter_eq_self];intro i a;simpa using a
 have d:((List.range m).map (n + ·)).filter (fun i=>decide (i<n))=[]:=by
  rw[JB];intro i a;obtain⟨j,_,rfl⟩:=UI.1 a;simp
 rw[c,d,QG]
theorem zmQ{before:Nat->Nat}{left a:Nat}(h:zcH before left=some a):a∈els left:=List.mem_of_find?_eq_some h
section
variable{r:RelD}{w:Wd}
theorem zye(hr:zK r.to)(hT:Tz64M w):Calls PG 207 #[.agg (zf r).toArray] w fun e w' =>
  (∃p c,e = .returned (.tuple #[.slice p ((zfs r).getD []).length c,.bool (zfs r).isSome])/\OwnS zF 3 w.heap.size w' p c ((zfs r).getD []))/\Bw w w':=by
 refine qA 38 [.agg (zf r).toArray] (.c .p (.s .p (.c .p (.c .p (.s .p .p))))) Tryz.func207 ?_;obtain⟨L,hL⟩:=nm (w.heap.size);refine⟨Unit,fun _=>⟨[(1,At0 L)],[]⟩,fun _ X=>X.heap[L]?=some (.cells (zf r).toArray 76 (0,0))/\X.heap.size=L+1/\Bw w X,⟨(),⟨.cons (by rw[hL];rfl) .nil,rfl⟩,by rw[hL];exact zt w _,by rw[hL];exact wz _ _,(zba w _)⟩,?_⟩;rintro _ X ⟨u,sX,d⟩;refine⟨zf r,zg _,za u,hlt u,cmo (j9 hr) ?_⟩;rintro e Y ⟨rfl,b⟩;have f:=zst d b;have o:=zb b u;refine biE (fun h=>?_) fun h=>?_
 ·have h:okR r=false:=by
   have h:(!okR r)=true:=h;simpa using h
  have e:zfs r=none:=by unfold zfs;rw[h];rfl
  rw[e];exact⟨⟨none,0,rfl,OwnS.nil⟩,f⟩
 have h:okR r=true:=by
  have h:(!okR r)=false:=h;simpa using h
 obtain⟨p0,am,_⟩:=jz h;obtain⟨n,hn⟩:∃n:Nat,r.n=n:=⟨r.n.toNat,by omega⟩;have ah:n<=48:=by omega
 have sY:=b.size;refine⟨Nat,fun M=>⟨[(1,At0 L),(4,At0 M)],[]⟩,fun M Z=>Z.heap[M]?=some (.cells (zf (z6 r)).toArray 76 (0,0))/\L<M/\Z.heap[L]?=some (.cells (zf r).toArray 76 (0,0))/\zK (z6 r).to/\Bw w Z,?_,?_⟩
 ·refine⟨zf r,zg _,za o,hlt o,cmo (zjt hr (hT.below f)) ?_⟩;rintro e Z ⟨rfl,g,hw⟩;refine zo (X:=Z) (v := .agg (zf (z6 r)).toArray) k76 rfl rfl (zH _) fun V j fV sV=>?_;have sZ:=g.size;exact⟨Z.heap.size,(cvE rfl rfl),fV,by omega,zb j (zb g o),hw,((zst f g)).trans (j.mono (by omega))⟩
 clear u sX d b f o sY Y X;rintro M X ⟨fM,al,u,hw,d⟩;refine⟨Unit,fun _=>⟨[(1,At0 L),(4,At0 M),(5,s64 (zaT n))],[]⟩,fun _ Y=>X=Y,?_,?_⟩
 ·refine⟨i64 n,by rw[<- hn];exact zc (za u) (i:=0) rfl,cmo zkE ?_⟩;rintro e _ ⟨rfl,rfl⟩;exact⟨(),(cvE rfl rfl),rfl⟩
 rintro _ _ rfl;refine⟨i64 n,by rw[<- hn];exact zc (za u) (i:=0) rfl,zd5 (E:=zF) Tryz.underlying89 k3 rfl rfl rfl n (by show 8*n<=_;omega) (by unfold maxLen;omega) fun Z oZ g sZ=>?_⟩;have ae:=zst d g;have wX:=d.size;have eT:zfs r=zkM (z6 r).to 64 (zaT n) []:=by unfold zfs;rw[Gn h,za8,hn]
 have aj:=hlt fM;refine⟨Nat×List Nat×Nat×OA×Nat,fun q=>⟨[(1,At0 L),(4,At0 M),(5,s64 q.1),(6,.slice q.2.2.2.1 q.2.1.length q.2.2.2.2)],[]⟩,
  fun q Y=>(zfs r=zkM (z6 r).to q.2.2.1 q.1 q.2.1/\(els q.1).length<=q.2.2.1/\q.2.2.1+q.2.1.length=64/\q.1<2^64/\∀i∈els q.1,i<48)/\OwnS zF 3 X.heap.size Y q.2.2.2.1 q.2.2.2.2 q.2.1/\Bw X Y,fun q=>q.1,(zaT n,[],64,some ⟨X.heap.size,0,none⟩,n),
  (cvE rfl rfl),⟨⟨eT,zfV _,rfl,za7 _,fun i hi=>by
   rw[show els (zaT n)=List.range n from zeH (by omega)] at hi;have:=Ul.1 hi;omega⟩,oZ,g⟩,?_⟩
 rintro⟨q,l,m,p,c⟩ Y ⟨⟨he,hm,ac,t,k⟩,ho,b⟩;dsimp only at he hm ac t k ho ⊢;have sY:=b.size;refine biE (fun x=>?_) fun x=>?_
 ·have x:(!decide ((q:Int)=0))=true:=x;have h0:q≠0:=fun e=>by
   subst e;exact Gp x (by decide)
  obtain⟨e1,_,_,_⟩:=j5 h0 t;have ak:1<=(els q).length:=by rw[e1];simp
  obtain⟨m,rfl⟩:∃m',m=m'+1:=⟨m-1,by omega⟩;have aa:=zb b fM;have step:zfs r=match zcH (z6 r).to q with | none=>none | some a=>zkM (z6 r).to m (jU q (2^a)) (l++[a]):=by
   rw[he];show(if q=0 then some l else _)=_;rw[Gm h0]
   cases zcH (z6 r).to q <;> rfl
  refine cmo (zw5 aa hw t k (hT.below (d.trans (b.mono wX)))) ?_;rintro e V ⟨rfl,j⟩;have y:=b.trans (j.mono sY)
  cases hf:zcH (z6 r).to q with
  | none =>
   rw[hf] at step;refine brT ?_;have e:zfs r=none:=step;rw[e];exact⟨⟨none,0,rfl,OwnS.nil⟩,d.trans (y.mono wX)⟩
  | some a =>
   rw[hf] at step;refine brF ?_;have ha:=zmQ hf;have af:=k a ha;refine⟨⟨by decide,by decide,rfl⟩,zF.enc a,rfl,?_⟩;have ad:Bw V (V.alloc (.cells (zF.enc a).toArray 3)):=zba _ _;have z:Bw Y (V.alloc (.cells (zF.enc a).toArray 3)):=zst j ad;have sa:(V.alloc (.cells (zF.enc a).toArray 3)).heap.size=V.heap.size+1:=wz _ _;have sV:=j.size;refine jG (E:=zF) (T:=3) (B:=X.heap.size) (l:=l) (news:=[a]) (cap:=c) (m:=1) Tryz.underlying89 k3 rfl rfl rfl (ho.below z) rfl (q9 zF a) (by omega) (by omega) (by show(l.length+1)*8<=_;omega) ?_;intro p2 c2 U oU gU ab ai;refine⟨by omega,_,zab (e:=a) (by omega),_,zc0 t (qc (by omega)),?_⟩;have ag:=zaL t ha;refine⟨(je q (2^a),l++[a],m,p2,c2),(cvE rfl rfl),⟨⟨step,by show(els (je q (2^a))).length<=m;omega,by simp only[lap,Qp,QK];omega,zay t,fun i hi=>?_⟩,oU,?_⟩,zsX t ha⟩
   ·rw[zeg t ha] at hi;exact k i (QO.1 hi).1
   ·exact(b.trans (z.mono sY)).trans ab
 ·have x:(!decide ((q:Int)=0))=false:=x;have h0:q=0:=by
   have h1:decide ((q:Int)=0)=true:=by simpa using x
   exact Uw (dT h1)
  subst h0;have e:zfs r=some l:=by
   rw[he]
   cases m <;> rfl
  rw[e];exact⟨⟨p,c,rfl,OwnS.lower ho wX⟩,d.trans (b.mono wX)⟩
theorem zeN(hr:zK r.to)(hT:Tz64M w):CB 159 #[.agg (zf r).toArray] w (.bool (zaU r)):=by
 refine zD 11 [.agg (zf r).toArray] Tryz.func159 ?_;have b:=zt w (.cells (zf r).toArray 76);have d:Bw w (w.alloc (.cells (zf r).toArray 76)):=zba w _;refine⟨zf r,zg _,za b,hlt b,cmo (zye hr (hT.below d)) ?_⟩;rintro e X ⟨⟨p,c,rfl,_⟩,a⟩;exact⟨rfl,(zst d a)⟩
end
end Go.Proofs.YtakcdebpklffiaaGreatDoor
namespace Go.Vc
open Go.RowKit
theorem KeepsG.more{F G:Nat->Prop}{A B:Wd}{g:Nat}(h:KeepsG G F A B)(hg:G g):KeepsG G (fun k=>F k\/k=g) A B :=
 ⟨h.os,h.tape,h.output,h.size,h.same,fun k a=>a.elim (h.fp k) fun e => .inl (by rw[e];exact hg)⟩
theorem zv3{α:Type}{E:Enc α}{P:Program}{w:Wd}{t T ty B g cap m c:Nat}{a:Addr}{l news:List α}{iT:TI}(hu:P.underlying t=some (.slice T))(hT:TIok P T iT)(hs:iT.size=E.sz)
  (ho:OwnS E T B w (some ⟨g,0,none⟩) cap l) (hm:news.length=m) (hn:zI w a (news.flatMap E.enc)) (hroom:l.length+m<=cap) {K:Value->Wd->Prop}
  (k:∀w',OwnS E T B w' (some ⟨g,0,none⟩) cap (l++news)->w.grownBy w' (some g)->K (.slice (some ⟨g,0,none⟩) (l++news).length cap) w') :
  SatR ((Builtin.append_ #[t,t] ty #[.slice (some ⟨g,0,none⟩) l.length cap,.slice (some a) m c]).run P w) K:=by
 obtain⟨⟨e,j,d,_,_⟩,_⟩:=hT;obtain⟨w',h,b,i⟩:=run_append_fits (P:=P) w B t ty T e E.sz hu j (d.trans hs) g l.length cap (l.flatMap E.enc) ho a m c (news.flatMap E.enc) (by rw[zZ,hm]) hn (zdf news) hroom;refine SatR.mk h ?_;have f:l.length+m=(l++news).length:=by simp[hm]
 have n:l.flatMap E.enc++news.flatMap E.enc=(l++news).flatMap E.enc:=by rw[Kh]
 rw[f,n] at b;rw[f];exact k w' b i
theorem OwnS.pref{α:Type}{E:Enc α}{T B cap g:Nat}{w:Wd}{l m:List α}(h:OwnS E T B w (some ⟨g,0,none⟩) cap (l++m)):OwnS E T B w (some ⟨g,0,none⟩) cap l:=by
 rcases h.inv with⟨h,_⟩ | ⟨k,a,b,f,i,e,j,c,d⟩
 ·cases h
 ·simp only[KY,Ur,Gh] at b;subst b;unfold OwnS World.ownsRow;refine⟨by rw[zZ],.inr ⟨g,cap,a,rfl,f,i,by rw[lap] at e;omega,j,c,?_⟩⟩;have:=Gi (List.take (l.length*E.sz)) d;rw[List.take_take,Kh,QT (zZ l)] at this;rw[<- this];congr 1;rw[lap,UV];omega
theorem zz{α:Type}{E:Enc α}{T B c:Nat}{Y:Wd}{q:OA}{l:List α}(h:OwnS E T B Y q c l){a:Addr}(ha:q=some a):B<=a.block/\a.block<Y.heap.size/\∃cur,Y.heap[a.block]?=some (.cells cur T (0,0)):=by
 rcases h.inv with⟨b,_⟩ | ⟨g,cur,b,e,d,_⟩
 ·rw[b] at ha;cases ha
 ·rw[b] at ha;cases ha;exact⟨e,hlt d,cur,d⟩
structure Gath {α:Type} (E:Enc α) (T TS B n0 L:Nat) (W:Wd) (NIn:(Nat->Prop)->Wd->α->Prop) (xs:List α) (F:Nat->Prop) (Y:Wd):Prop where
 size:n0<=Y.heap.size
 inL:F L
 lt:∀k,F k->k<Y.heap.size
 row:∃(p:OA) (c:Nat),Y.heap[L]?=some (.cells [.slice p xs.length c].toArray TS (0,0))/\OwnS E T B Y p c xs/\∀a,p=some a->F a.block
 nest:∀x∈xs,NIn F Y x
 old:Below B W Y
def zkB {α:Type} (T TS:Nat) (NIn:(Nat->Prop)->Wd->α->Prop):Prop :=
 ∀(F G:Nat->Prop) (Y Z:Wd) (x:α),NIn F Y x->(∀k cur T',F k->Y.heap[k]?=some (.cells cur T' (0,0))->T'≠T->T'≠TS->Z.heap[k]?=Y.heap[k]?)->(∀k,F k->G k)->NIn G Z x
theorem Gath.iter{α σ:Type}{E:Enc α}{T TS B n0 L:Nat}{W:Wd}{NIn:(Nat->Prop)->Wd->α->Prop}{f:σ->List α->Prop}(hN:zkB T TS NIn)(hB:B<=n0) :
  JG n0 (fun _=>False) (fun(s:σ) F Y=>∃xs,f s xs/\Gath E T TS B n0 L W NIn xs F Y):=by
 refine⟨?_,?_⟩
 ·rintro s F A C ⟨xs,o,h⟩ d;have e:∀k,F k->k<A.heap.size->C.heap[k]?=A.heap[k]?:=fun k b l=>d.same k l (.inr b);obtain⟨p,c,m,j,g⟩:=h.row;exact⟨xs,o,UL h.size d.size,h.inL,fun k b=>nL (h.lt k b) d.size,⟨p,c,(e L h.inL (h.lt L h.inL)).trans m,j.same fun a i=>e _ (g a i) (h.lt _ (g a i)),g⟩,
   fun x n=>hN F F A C x (h.nest x n) (fun k _ _ b _ _ _=>e k b (h.lt k b)) fun k h=>h,h.old.trans ⟨d.os,d.tape,d.output,d.size,fun k b=>d.same k (nL (nL b hB) h.size) (.inl ⟨by omega,fun h=>h⟩)⟩⟩
 ·rintro s F A k ⟨xs,_,h⟩ b;exact⟨h.lt k b,fun h=>h⟩
theorem Gath.stepX{α:Type}{E:Enc α}{P:Program}{T TS B n0 L ty cap1:Nat}{W Y2 Y3:Wd}{NIn:(Nat->Prop)->Wd->α->Prop}{xs:List α}{F:Nat->Prop}{iT iS:TI}{z:List Value}(hN:zkB T TS NIn)(hne:T≠TS)
  (hu:P.underlying TS=some (.slice T)) (hT:TIok P T iT) (hz:iT.zero=some z) (hs:iT.size=E.sz) (hzl:z.length=E.sz) (hS:TIok P TS iS) (hS1:iS.size=1)
  (h:Gath E T TS B n0 L W NIn xs F Y2) (hB:B<=n0) (hL:B<=L) (hb3:Bw Y2 Y3) (nx:α) (hl:xs.length+1<=4611686018427387904) (hby:(xs.length+1)*iT.bytes<=140737488355328)
  (zt:∀(G:Nat->Prop) (Z:Wd),(∀k,Y2.heap.size<=k->k<Y3.heap.size->Z.heap[k]?=Y3.heap[k]?)->(∀k,Y2.heap.size<=k->k<Y3.heap.size->G k)->(∀k cur T',F k->Y2.heap[k]?=some (.cells cur T' (0,0))->T'≠T->T'≠TS->Z.heap[k]?=Y2.heap[k]?)->(∀k,F k->G k)->NIn G Z nx) :
  ∀p c,Y2.heap[L]?=some (.cells [.slice p xs.length c].toArray TS (0,0)) ->
  ∃v Y5,(Builtin.append_ #[TS,TS] ty #[.slice p xs.length c,.slice (some ⟨Y3.heap.size,0,none⟩) 1 cap1]).run P (Y3.alloc (.cells (E.enc nx).toArray T)) = .ok v Y5 /\
   ∃Z,(storeVar TS ⟨L,0,none⟩ v).run P Y5 = .ok () Z/\∃F',Gath E T TS B n0 L W NIn (xs++[nx]) F' Z/\KeepsG F F' Y2 Z/\∀k,F k->F' k:=by
 intro p c h4;obtain⟨p',c',j,h5,h6⟩:=h.row;rw[h4] at j;simp at j;obtain⟨rfl,rfl⟩:=j;have h1:=h.size;have h2:=h.inL;have h3:=h.lt;have ae:Bw Y3 (Y3.alloc (.cells (E.enc nx).toArray T)):=zba _ _;have sa:(Y3.alloc (.cells (E.enc nx).toArray T)).heap.size=Y3.heap.size+1:=wz _ _;have s3:Y2.heap.size<=Y3.heap.size:=hb3.size;have d:Bw Y2 (Y3.alloc (.cells (E.enc nx).toArray T)):=hb3.trans (ae.mono s3);have ai:SatR ((Builtin.append_ #[TS,TS] ty #[.slice p xs.length c,.slice (some ⟨Y3.heap.size,0,none⟩) 1 cap1]).run P (Y3.alloc (.cells (E.enc nx).toArray T))) fun v Y5=>∃r s,v = .slice r (xs++[nx]).length s/\OwnS E T B Y5 r s (xs++[nx])/\(Y3.alloc (.cells (E.enc nx).toArray T)).grownBy Y5 (Value.slice p xs.length c).ownBlock/\∀a,r=some a->p=some a\/a.block=(Y3.alloc (.cells (E.enc nx).toArray T)).heap.size :=
  jG (E:=E) (T:=T) (B:=B) (l:=xs) (news:=[nx]) (cap:=c) (m:=1) hu hT hz hs hzl (h5.below d) rfl (by
   have:=zkw (w:=Y3) (cs:=(E.enc nx).toArray) (t:=T);simpa using this) (by omega) (by omega) hby fun r s Y5 o5 n am aa=>⟨r,s,rfl,o5,n,aa⟩
 obtain⟨v,Y5,ag,r,s,rfl,o5,n,aa⟩:=ai;have pb:∀{k:Nat},(Value.slice p xs.length c).ownBlock=some k->∃a,p=some a/\a.block=k:=fun{k} e=>by
  cases hp:p with
  | none=>rw [hp] at e;simp [Value.ownBlock] at e
  | some a =>
   rw[hp] at e;simp only[Value.ownBlock,KY] at e;exact⟨a,rfl,e⟩
 have j:Y5.heap[L]?=some (.cells [.slice p xs.length c].toArray TS (0,0)):=by
  refine(n.block L (hlt (zb d h4)) fun e=>?_).trans (zb d h4);obtain⟨a,hp,e⟩:=pb e.symm;obtain⟨_,_,cur,b⟩:=zz h5 hp;rw[e,h4] at b;simp at b;exact hne b.2.symm
 have aj:SatR ((storeVar TS ⟨L,0,none⟩ (.slice r (xs++[nx]).length s)).run P Y5) fun _ Z=>Z.heap[L]?=some (.cells [.slice r (xs++[nx]).length s].toArray TS (0,0))/\Y5.grownBy Z (some L)/\Z.heap.size=Y5.heap.size :=
  zm hS j (o:=0) (v := .slice r (xs++[nx]).length s) rfl hS1 (by show 0<1;decide) rfl fun Z fZ q sZ=>⟨fZ,q,sZ⟩
 obtain⟨u,Z,ab,fZ,q,sZ⟩:=aj;have s5:=n.size;refine⟨_,Y5,ag,Z,ab,fun k=>F k\/(Y2.heap.size<=k/\k<Z.heap.size),?_⟩;have wr:∀k,k<Y2.heap.size->k≠L->(∀a,p=some a->k≠a.block)->Z.heap[k]?=Y2.heap[k]?:=fun k f hne ah=>by
  refine(q.block k (by omega) (by simpa using hne)).trans ((n.block k (by omega) fun e=>?_).trans (d.block k f));obtain⟨a,hp,e⟩:=pb e.symm;exact ah a hp e.symm
 have new:∀k,Y2.heap.size<=k->k<Y3.heap.size->Z.heap[k]?=Y3.heap[k]?:=fun k ad ac=>by
  have al:=h3 L h2;refine(q.block k (by omega) (by simp;omega)).trans ((n.block k (by omega) fun e=>?_).trans (ae.block k ac));obtain⟨a,hp,e⟩:=pb e.symm;have:=h3 _ (h6 a hp);omega
 have af:∀k cur T',F k->Y2.heap[k]?=some (.cells cur T' (0,0))->T'≠T->T'≠TS->Z.heap[k]?=Y2.heap[k]?:=fun k cur T' f hc t1 t2=>by
  refine wr k (h3 k f) (fun e=>?_) fun a x e=>?_
  ·rw[e,h4] at hc;simp at hc;exact t2 hc.2.symm
  ·obtain⟨_,_,ak,i⟩:=zz h5 x;rw[<- e,hc] at i;simp at i;exact t1 i.2
 refine⟨⟨by omega,.inl h2,fun k f=>?_,⟨r,s,fZ,o5.kept q fun g hg e=>?_,fun a x=>?_⟩,fun y hy=>?_,?_⟩,⟨q.os.trans (n.os.trans d.os),q.tape.trans (n.tape.trans d.tape),q.output.trans (n.output.trans d.output),by omega,fun k f hf=>wr k f (fun e=>hf (by rw[e];exact h2)) (fun a x e=>hf (by rw[e];exact h6 a x)),fun k f=>f.imp id fun h=>h.1⟩,fun k f => .inl f⟩
 ·rcases f with f | f
  ·have:=h3 k f;omega
  ·exact f.2
 ·obtain⟨_,_,cur,b⟩:=zz o5 hg;simp only[KY] at e;have b:Y5.heap[g]?=_:=b;rw[<- e,j] at b;simp at b;exact hne b.2.symm
 ·rcases aa a x with h | h
  ·exact .inl (h6 a h)
  ·have:=(zz o5 x).2.1;exact .inr ⟨by omega,by omega⟩
 ·rcases QN.1 hy with hy | hy
  ·exact hN F _ Y2 Z y (h.nest y hy) af fun k f => .inl f
  ·simp only[KB] at hy;subst hy;exact zt _ Z new (fun k ad ac => .inr ⟨ad,by omega⟩) af fun k f => .inl f
 ·refine h.old.trans ⟨q.os.trans (n.os.trans d.os),q.tape.trans (n.tape.trans d.tape),q.output.trans (n.output.trans d.output),by omega,fun k f=>wr k (by omega) (by omega) fun a x=>?_⟩;have:=(zz h5 x).1;omega
theorem Gath.step{α:Type}{E:Enc α}{P:Program}{T TS B n0 L ty cap1:Nat}{W Y2 Y3:Wd}{NIn:(Nat->Prop)->Wd->α->Prop}{xs:List α}{F:Nat->Prop}{iT iS:TI}{z:List Value}(hN:zkB T TS NIn)(hne:T≠TS)
  (hu:P.underlying TS=some (.slice T)) (hT:TIok P T iT) (hz:iT.zero=some z) (hs:iT.size=E.sz) (hzl:z.length=E.sz) (hS:TIok P TS iS) (hS1:iS.size=1)
  (h:Gath E T TS B n0 L W NIn xs F Y2) (hB:B<=n0) (hL:B<=L) (hb3:Bw Y2 Y3) (nx:α) (hl:xs.length+1<=4611686018427387904) (hby:(xs.length+1)*iT.bytes<=140737488355328)
  (zt:∀(G:Nat->Prop) (Z:Wd),(∀k,Y2.heap.size<=k->k<Y3.heap.size->Z.heap[k]?=Y3.heap[k]?)->(∀k,Y2.heap.size<=k->k<Y3.heap.size->G k)->NIn G Z nx) :
  ∀p c,Y2.heap[L]?=some (.cells [.slice p xs.length c].toArray TS (0,0)) ->
  ∃v Y5,(Builtin.append_ #[TS,TS] ty #[.slice p xs.length c,.slice (some ⟨Y3.heap.size,0,none⟩) 1 cap1]).run P (Y3.alloc (.cells (E.enc nx).toArray T)) = .ok v Y5 /\
   ∃Z,(storeVar TS ⟨L,0,none⟩ v).run P Y5 = .ok () Z/\∃F',Gath E T TS B n0 L W NIn (xs++[nx]) F' Z/\KeepsG F F' Y2 Z/\∀k,F k->F' k :=
 h.stepX hN hne hu hT hz hs hzl hS hS1 hB hL hb3 nx hl hby fun G Z a b _ _=>zt G Z a b
end Go.Vc
namespace Go.Proofs.YtakcdebpklffiaaGreatDoor
open Go.Vc Go.RowKit Go.Sei
abbrev qb (X:Wd) (b:Nat) (r:RelD):Prop:=X.heap[b]?=some (.cells (zf r).toArray 76 (0,0))
def StO (pre:List (List Nat)) (vs:List Value) (W:Wd):Prop:=∃l q c,pre.getLast?=some l/\vs=[.slice q l.length c]/\SlR zF W q l/\(q=none->c=0)/\∀a,q=some a->∃cur,W.heap[a.block]?=some (.cells cur 3 (0,0))
section
variable{yl n0 n bB:Nat}{J Jx:List (List Nat)->(Nat->Prop)->Wd->Prop}{xs:List (List Nat)}{r:RelD}
theorem ztj(hJ:JG n0 (fun _=>False) J)(hn0:∀pre F X,J pre F X->n0<=X.heap.size)(hy:∀pre x vs F W1,J pre F W1->StO (pre++[x]) vs W1->(pre++[x]) <+: xs->YieldR PG yl vs.toArray W1 fun v W2=>(v = .bool true/\∃F',J (pre++[x]) F' W2/\KeepsG F F' W1 W2)\/(v = .bool false/\∃F',Jx (pre++[x]) F' W2))(hr:zK r.to)(hn:n<=48)(ht0:7<n0) :
  ∀(m left:Nat) (l:List Nat) (g:Nat) (pre:List (List Nat)) (F:Nat->Prop) (X:Wd),(els left).length<=m->left<2^64->(∀i∈els left,i<48)->l.length+(els left).length<=n->OwnS zF 3 n0 X (some ⟨g,0,none⟩) n l->¬F g->J pre F X->qb X bB r->¬F bB->n0<=bB->bB≠g->Tz64M X->¬F 7->(pre++zaK r.to m left l) <+: xs ->
   Calls PG 271 #[At0 bB,s64 left,.slice (some ⟨g,0,none⟩) l.length n,.func (.yield yl) #[] #[]] X fun e Y =>
    (e = .returned (.bool true)/\∃F',J (pre++zaK r.to m left l) F' Y/\KeepsG (fun k=>F k\/k=g) F' X Y/\OwnS zF 3 n0 Y (some ⟨g,0,none⟩) n l/\¬F' g)\/(e = .returned (.bool false)/\∃pre' F',pre' <+: xs/\Jx pre' F' Y):=by
 intro m
 induction m with
 | zero =>
  intro left l g pre F X hm c al bf ho u hj hR ar aq ab hT av d;have h0:left=0:=by
   apply Jo;intro h0;rw[(j5 h0 c).1] at hm;simp at hm
  subst h0;refine zD 56 [At0 bB,s64 0,.slice (some ⟨g,0,none⟩) l.length n,.func (.yield yl) #[] #[]] Tryz.func271 ?_;refine brT ?_;have hs:zaK r.to 0 0 l=[l]:=rfl;rw[hs] at d ⊢;refine YieldR.mono (hy pre l [.slice (some ⟨g,0,none⟩) l.length n] F X hj ⟨l,_,n,by simp,rfl,ho.row,fun h=>(by cases h),fun a ha=>(zz ho ha).2.2⟩ d) ?_;rintro v Z (⟨rfl,F',o,j⟩ | ⟨rfl,F',o⟩)
  ·have an:g<X.heap.size:=(zz ho rfl).2.1;exact .inl ⟨rfl,F',o,j.weak fun k h => .inl h,ho.same fun a ha=>by cases ha;exact j.same g an u,fun h=>by
    rcases j.fp g h with h | h
    ·exact u h
    ·omega⟩
  ·exact .inr ⟨rfl,_,F',d,o⟩
 | succ m ih =>
  intro left l g pre F X hm c al bf ho u hj hR ar aq ab hT av d;refine zD 56 [At0 bB,s64 left,.slice (some ⟨g,0,none⟩) l.length n,.func (.yield yl) #[] #[]] Tryz.func271 ?_;have an:g<X.heap.size:=(zz ho rfl).2.1;have a0:n0<=g:=(zz ho rfl).1;refine biE (fun h=>?_) fun h=>?_
  ·have h:left=0:=Uw (dT h);subst h;have hs:zaK r.to (m+1) 0 l=[l]:=rfl;rw[hs] at d ⊢;refine YieldR.mono (hy pre l [.slice (some ⟨g,0,none⟩) l.length n] F X hj ⟨l,_,n,by simp,rfl,ho.row,fun h=>(by cases h),fun a ha=>(zz ho ha).2.2⟩ d) ?_;rintro v Z (⟨rfl,F',o,j⟩ | ⟨rfl,F',o⟩)
   ·exact .inl ⟨rfl,F',o,j.weak fun k h => .inl h,ho.same fun a ha=>by cases ha;exact j.same g an u,fun h=>by
    rcases j.fp g h with h | h
    ·exact u h
    ·omega⟩
   ·exact .inr ⟨rfl,_,F',d,o⟩
  have h:left≠0:=fun e=>(dF h) (by rw[e];rfl);obtain⟨G,hG⟩:∃G:Nat->List (List Nat),G=fun a=>if r.to a&&&left=0 then zaK r.to m (jU left (2^a)) (l++[a]) else[]:=⟨_,rfl⟩
  have hs:zaK r.to (m+1) left l=(els left).flatMap G:=by
   rw[hG];show(if left=0 then[l] else _)=_;rw[Gm h]
  rw[hs] at d ⊢;refine cmo (zbu c hT) ?_;rintro e X1 ⟨rfl,aa⟩;refine⟨Nat×List Nat×(Nat->Prop),fun s=>⟨[(0,At0 bB),(1,s64 left),(2,.slice (some ⟨g,0,none⟩) l.length n),(3,.func (.yield yl) #[] #[]),(9,s64 s.1),(10,i64 ((els s.1).headD 0:Nat)),(11,.bool (!(els s.1).isEmpty))],[]⟩,
   fun s Z=>(els left=s.2.1++els s.1/\s.1<2^64)/\J (pre++s.2.1.flatMap G) s.2.2 Z/\OwnS zF 3 n0 Z (some ⟨g,0,none⟩) n l/\¬s.2.2 g/\qb Z bB r/\¬s.2.2 bB/\Tz64M Z/\¬s.2.2 7/\KeepsG (fun k=>F k\/k=g) s.2.2 X Z,fun s=>s.1,(left,[],F),
   (cvE rfl rfl),⟨⟨rfl,c⟩,by show J (pre++[]) F X1;rw[QG];exact hJ.step _ _ _ _ hj (.below aa),ho.below aa,u,zb aa hR,ar,hT.below aa,av,KeepsG.below aa fun k h => .inl (.inl h)⟩,?_⟩
  rintro⟨q,f,F1⟩ Z ⟨⟨he,hq⟩,ac,ak,y,aj,ad,ai,af,kZ⟩;dsimp only at he hq ac y ad af kZ ⊢;have bm:=hn0 _ _ _ ac;refine biE (fun hc=>?_) fun hc=>?_
  ·have h0:=zfW hq hc;obtain⟨e1,e2,_,e3⟩:=j5 h0 hq;have hd:=(zcr h0 hq).1;have z:ctz q∈els left:=by rw[he,e1];simp
   have ae:ctz q<48:=al _ z;rw[e1] at he;have ax:∀t,(f++[ctz q]).flatMap t=f.flatMap t++t (ctz q):=fun t:Nat->List (List Nat)=>by
    rw[Kh,KR,Qm,QG]
   have next:∀{Y:Wd} {F2:Nat->Prop},J (pre++(f++[ctz q]).flatMap G) F2 Y->OwnS zF 3 n0 Y (some ⟨g,0,none⟩) n l->¬F2 g->qb Y bB r->¬F2 bB->Tz64M Y->¬F2 7->KeepsG (fun k=>F k\/k=g) F2 X Y ->
     ∀Y2,Bw Y Y2->((els left=(f++[ctz q])++els (qM q)/\qM q<2^64)/\J (pre++(f++[ctz q]).flatMap G) F2 Y2/\OwnS zF 3 n0 Y2 (some ⟨g,0,none⟩) n l/\¬F2 g/\qb Y2 bB r/\¬F2 bB/\Tz64M Y2/\¬F2 7/\KeepsG (fun k=>F k\/k=g) F2 X Y2) :=
    fun{Y F2} a1 a2 a3 a4 a5 a6 a7 a8 Y2 p=>⟨⟨by rw[he];simp,by omega⟩,hJ.step _ _ _ _ a1 (.below p),a2.below p,a3,zb p a4,a5,a6.below p,a7,a8.trans (KeepsG.below p fun k h => .inl h)⟩
   refine DrawE.ord [18,20] [0,1,2,3,4,5,6,7,8,9,10,11,12,13,14,15,16,19,17,18,20,21,22] (by kernel_rfl) ?_;have ao:Bw Z Z.drew:=(Gb _ _).drew;refine⟨ctz q,Gi Nat.cast hd.symm,ae,_,za3 (hdr aj) ae,_,zac (hr _ ae) c,biE (fun p=>?_) fun p=>?_⟩
   ·have p:r.to (ctz q)&&&left=0:=Uw (dT p);have ah:G (ctz q)=zaK r.to m (jU left (2^ctz q)) (l++[ctz q]):=(by rw[hG];exact Gn p);refine⟨by omega,((2^ctz q:Nat):Int),by rw[hd];exact zab (e:=ctz q) (by omega),_,zc0 c (qc (by omega)),⟨by decide,by decide,rfl⟩,zF.enc (ctz q),by rw[hd];rfl,?_⟩;have aw:Below Z.drew.heap.size Z.drew (Z.drew.alloc (.cells (zF.enc (ctz q)).toArray 3)):=zba _ _;refine⟨aw,?_⟩;have w:Bw Z (Z.drew.alloc (.cells (zF.enc (ctz q)).toArray 3)):=ao.trans aw;have bk:=zaL c z;refine zv3 (E:=zF) (l:=l) (news:=[ctz q]) (m:=1) Tryz.underlying89 k3 rfl (ak.below w) rfl (q9 zF (ctz q)) (by
     have:1<=(els left).length:=(by rw[he];simp;omega);omega) ?_
    intro Y oY gY;have ay:=hJ.step _ _ _ _ (hJ.step _ _ _ _ ac (.below w)) (StepG.grown gY (.inl a0) y);have sA:(Z.drew.alloc (.cells (zF.enc (ctz q)).toArray 3)).heap.size=Z.heap.size+1:=wz _ _;have ag:qb Y bB r:=(gY.block bB (hlt (zb w aj)) (by simpa using ab)).trans (zb w aj);have bj:=zbn ai;have ap:Tz64M Y:=zaH (ai.below w) (gY.block _ (by omega) (by
     intro e;have:7=g:=(by simpa using e);omega))
    have am:((pre++f.flatMap G)++zaK r.to m (jU left (2^ctz q)) (l++[ctz q])) <+: xs:=by
     refine List.IsPrefix.trans ?_ d;rw[he,<- ah,Kh,KR];exact⟨(els (qM q)).flatMap G,by simp only[KN]⟩
    refine cmo (ih (je left (2^ctz q)) (l++[ctz q]) g (pre++f.flatMap G) F1 Y (by omega) (zay c) (fun i hi=>by
     rw[zeg c z] at hi;exact al i (QO.1 hi).1) (by simp only[lap,Qp,QK];omega) oY y ay ag ad aq ab ap af am) ?_
    rintro e V (⟨rfl,F2,az,kV,oV,bi⟩ | ⟨rfl,pre',F2,be,a9⟩)
    ·refine brF ?_;have bb:KeepsG (fun k=>F1 k\/k=g) (fun k=>F1 k\/k=g) Z Y:=(KeepsG.below w fun k h => .inl h).trans (KeepsG.grown gY (.inr rfl));have kW:KeepsG (fun k=>F k\/k=g) F2 X V:=((kZ.more (.inr rfl)).trans bb).trans kV;have sY:=gY.size;have bl:=kV.size;have ba:¬F2 bB:=fun h=>by
      have:=hlt ag;rcases kV.fp bB h with(h | h) | h
      ·exact ad h
      ·exact ab h
      ·omega
     have bg:¬F2 7:=fun h=>by
      rcases kV.fp _ h with(h | h) | h
      ·exact af h
      ·omega
      ·omega
     have bd:qb V bB r:=(kV.same bB (hlt ag) (fun h=>h.elim ad ab)).trans ag;have au:Tz64M V:=zaH ap (kV.same _ (by omega) (fun h=>h.elim af fun e=>by omega));refine⟨((q-1:Nat):Int),(w64 (a:=(q:Int)-1) (by omega)).trans (by omega),((qM q:Nat):Int),zac (a:=q) (b:=q-1) hq (by omega),cmo (zbu (s:=qM q) (by omega) au) ?_⟩;rintro e U ⟨rfl,bh⟩;exact⟨(qM q,f++[ctz q],F2),(cvE rfl rfl),next (by rw[ax,ah,<- KN];exact az) oV.pref bi bd ba au bg kW U bh,e2⟩
    ·exact brT (.inr ⟨rfl,pre',F2,be,a9⟩)
   ·have p:¬r.to (ctz q)&&&left=0:=fun e=>(dF p) (by rw[e];rfl);have ah:G (ctz q)=[]:=(by rw[hG];exact Gm p);refine brF ⟨((q-1:Nat):Int),(w64 (a:=(q:Int)-1) (by omega)).trans (by omega),((qM q:Nat):Int),zac (a:=q) (b:=q-1) hq (by omega),cmo (zbu (s:=qM q) (by omega) (ai.below ao)) ?_⟩;rintro e Y ⟨rfl,bc⟩;exact⟨(qM q,f++[ctz q],F1),(cvE rfl rfl),next (by rw[ax,ah,QG];exact ac) ak y aj ad ai af kZ Y (ao.trans bc),e2⟩
  ·have hc:(els q).isEmpty=true:=by simpa using hc
   have:=zdG hq hc;subst this;rw[zaC,QG] at he;rw[he];exact .inl ⟨rfl,F1,ac,kZ,ak,y⟩
end
section
variable{r:RelD}
theorem zyd{bx:Nat}{W0:Wd}(hr:zK r.to)(hn:r.n<=48)(fx:qb W0 bx r)(hT:Tz64M W0) :
  zkC PG 270 [At0 bx] (zbW r) W0 (fun k=>k=bx\/k=7) (fun _=>False) StO:=by
 intro yl F0 J Jx W ao ab af t an hy h0;have d:qb W bx r:=(ab bx (.inl (.inl rfl))).trans fx;have g:Tz64M W:=zaH hT (ab _ (.inl (.inr rfl)));refine zD 17 [.func (.yield yl) #[] #[],At0 bx] Tryz.func270 ?_;refine⟨zf r,zg _,za d,hlt d,cmo (zeN hr g) ?_⟩;rintro e X ⟨rfl,f⟩;refine biE (fun h=>?_) fun h=>?_
 ·have h:zaU r=false:=by
   have h:(!zaU r)=true:=h;simpa using h
  have u:zbW r=[]:=by unfold zbW;rw[h];rfl
  rw[u];exact⟨⟨_,rfl⟩,.inl ⟨F0,t.step _ _ _ _ h0 (.below f)⟩⟩
 have h:zaU r=true:=by
  have h:(!zaU r)=false:=h;simpa using h
 have u:zbW r=zaK (z6 r).to 64 (zal r.n) []:=by unfold zbW;rw[h];rfl
 rw[u] at hy ⊢;refine⟨zf r,zg _,za (zb f d),hlt (zb f d),cmo (zjt hr (g.below f)) ?_⟩;rintro e Y ⟨rfl,ak,ag⟩;have m:=zst f ak;refine zo (X:=Y) (v := .agg (zf (z6 r)).toArray) k76 (zg _) (by kernel_rfl) (zH _) fun V aj fV sV=>?_;have b:=zst m aj;have w:=zb b d;have ah:=g.below b;have ai:okR r=true:=by
  unfold zaU zfs at h
  split at h
  ·assumption
  ·simp at h
 obtain⟨p0,ap,_⟩:=jz ai;obtain⟨n,q⟩:∃n:Nat,r.n=n:=⟨r.n.toNat,by omega⟩;have ac:n<=48:=by omega
 have aa:els (zaT n)=List.range n:=zeH (by omega);have wY:=m.size;have ad:¬F0 Y.heap.size:=fun h=>by have:=(t.lt _ _ _ _ h0 h).1;omega
 have al:=zbn g;have am:JG W.heap.size (fun _=>False) (fun c F Z=>J c F Z/\W.heap.size<=Z.heap.size):=⟨fun s F A B ⟨h,hn⟩ u=>⟨t.step _ _ _ _ h u,UL hn u.size⟩,fun s F A k ⟨h,_⟩ hk=>t.lt _ _ _ _ h hk⟩;have o:zal r.n=zaT n:=by rw[za8,q]
 have p:∀Z:Wd,OwnS zF 3 V.heap.size Z (some ⟨V.heap.size,0,none⟩) n []->Bw V Z->Calls PG 271 #[At0 Y.heap.size,s64 (zaT n),.slice (some ⟨V.heap.size,0,none⟩) 0 n,.func (.yield yl) #[] #[]] Z fun e Y2=>(∃v,e = .returned v)/\((∃F',J (zaK (z6 r).to 64 (zal r.n) []) F' Y2)\/∃c F',c <+: zaK (z6 r).to 64 (zal r.n) []/\Jx c F' Y2):=by
  intro Z oZ a;have j:Bw W Z:=zst b a;refine cmo (ztj (l:=[]) (J:=fun c F Z=>J c F Z/\W.heap.size<=Z.heap.size) (Jx:=Jx) (n0:=W.heap.size) (n:=n) (bB:=Y.heap.size) (r:=z6 r) (xs:=zaK (z6 r).to 64 (zal r.n) []) am (fun _ _ _ h=>h.2) (fun c x vs F W1 ⟨hj,hn⟩ ae z=>YieldR.mono (hy c x vs F W1 hj ae z) fun v W2 h=>?_) ag ac al 64 (zaT n) V.heap.size [] F0 Z (zfV _) (za7 _) (fun i hi=>by
   rw[aa] at hi;have:=Ul.1 hi;omega) (by rw[aa];simp) (oZ.lower b.size) (fun h=>?_) ⟨t.step _ _ _ _ h0 (.below j),j.size⟩ (zb a fV) ad wY (by omega) (ah.below a) (af _ (.inr rfl)) (by rw[o];exact List.prefix_refl _)) ?_
  ·rcases h with⟨rfl,F',h1,h2⟩ | h
   ·exact .inl ⟨rfl,F',⟨h1,UL hn h2.size⟩,h2⟩
   ·exact .inr h
  ·have:=(t.lt _ _ _ _ h0 h).1;have:=b.size;omega
  ·rintro e Y2 (⟨rfl,F',⟨hj,_⟩,_⟩ | ⟨rfl,y,F',h1,h2⟩)
   ·rw[o];exact⟨⟨_,rfl⟩,.inl ⟨F',hj⟩⟩
   ·exact⟨⟨_,rfl⟩,.inr ⟨y,F',h1,h2⟩⟩
 refine DrawE.treeQ [7] (.op 0 (.op 1 (.op 3 (.op 4 (.op 6 (.alt (.op 2 (.op 5 (.op 7 .nil))) (.op 5 (.op 2 (.op 7 .nil))))))))) (by kernel_rfl) ⟨i64 n,by rw[<- q];exact zc (za w) (i:=0) rfl,i64 n,by rw[<- q];exact zc (za w) (i:=0) rfl,Gf ?_ ?_⟩
 ·refine cmo zkE ?_;rintro e _ ⟨rfl,rfl⟩;refine⟨Gb _ _,zd5 (E:=zF) Tryz.underlying89 k3 rfl rfl rfl n (by show 8*n<=_;omega) (by unfold maxLen;omega) fun Z oZ a sZ=>⟨a,cmo (p Z oZ (((Gb _ V).drew).trans a)) ?_⟩⟩;rintro e Y2 ⟨⟨v,rfl⟩,h⟩;exact⟨⟨_,rfl⟩,h⟩
 ·refine zd5 (E:=zF) Tryz.underlying89 k3 rfl rfl rfl n (by show 8*n<=_;omega) (by unfold maxLen;omega) fun Z oZ a sZ=>⟨a,cmo zkE ?_⟩;rintro e _ ⟨rfl,rfl⟩;refine⟨Gb _ _,cmo (p Z oZ (((Gb _ V).drew).trans a)) ?_⟩;rintro e Y2 ⟨⟨v,rfl⟩,h⟩;exact⟨⟨_,rfl⟩,h⟩
theorem zxy{w:Wd}:Calls PG 197 #[.agg (zf r).toArray] w fun e w'=>e = .returned (.func (.func 270) #[] #[At0 w.heap.size])/\qb w' w.heap.size r/\w'.heap.size=w.heap.size+1/\Bw w w':=by
 refine zD 4 [.agg (zf r).toArray] Tryz.func197 ?_;exact⟨rfl,zt w _,wz _ _,(zba w _)⟩
theorem zrU{b:Nat}{m:Nat}{w:Wd}(hr:zK r.to)(fb:qb w b r):CB 196 #[At0 b,i64 m] w (.bool (decide (m<=10000)&&okR r)):=by
 refine zD 17 [At0 b,i64 m] Tryz.func196 ?_;refine biE (fun h=>?_) fun h=>?_
 ·refine biE (fun a=>?_) fun a=>?_
  ·have a:(m:Int)<=10000:=dT a;refine⟨zf r,zg _,za fb,hlt fb,cmo (j9 hr) ?_⟩;rintro e Y ⟨rfl,c⟩;exact⟨rb (by rw[Up (show m<=10000 by omega),Uv]),c⟩
  ·have a:¬(m:Int)<=10000:=dF a;exact⟨rb (by rw[Ue (show ¬m<=10000 by omega),Ug]),Gb _ _⟩
 ·have h:¬(0:Int)<=m:=dF h;omega
end
def jt:Enc (List Nat×OA×Nat) where
 sz:=1
 enc x:=[.slice x.2.1 x.1.length x.2.2]
 len x:=rfl
 one x v hv:=by
  simp at hv;subst hv;rfl
 pos:=by decide
theorem zuh{p:OA}{cap:Nat}{l:List Nat}{w:Wd}(hl:SlR zF w p l)(hn:l.length<=100000)(hc:p=none->cap=0) :
  Calls PG 198 #[.slice p l.length cap] w fun e w'=>(∃q c,e = .returned (.slice q l.length c)/\OwnS zF 3 w.heap.size w' q c l)/\Bw w w':=by
 refine zD 8 [.slice p l.length cap] Tryz.func198 ?_;refine⟨_,fun w=>zxf Tryz.underlying89 _ _ p l.length cap w,?_⟩
 cases p with
 | none =>
  refine brT ?_;have e:=hl.none;subst e;exact⟨⟨none,0,rfl,OwnS.nil⟩,Gb _ _⟩
 | some a =>
  refine brF ⟨⟨by decide,by decide,rfl⟩,[],rfl,?_⟩;have b:Bw w (w.alloc (.cells #[] 3)):=zba w _;refine zf5 (E:=zF) (T:=3) (B:=w.heap.size) (l:=[]) (news:=l) (cap:=0) Tryz.underlying89 k3 rfl rfl rfl ziv rfl (hl.below b) (fun h=>by cases h) b.size (by simp;omega) (by show(0+l.length)*8<=_;omega) ?_;intro g d w' i j f;exact⟨⟨g,d,rfl,i⟩,b.trans f⟩
def zxC (B:Nat) (F:Nat->Prop) (Y:Wd) (x:List Nat×OA×Nat):Prop:=OwnS zF 3 B Y x.2.1 x.2.2 x.1/\∀a,x.2.1=some a->F a.block
theorem zgD(B:Nat):zkB 89 90 (zxC B):=by
 rintro F G Y Z x ⟨f,e⟩ g d;refine⟨f.same fun a b=>?_,fun a b=>d _ (e a b)⟩;obtain⟨_,_,c,h⟩:=zz f b;exact g _ c 3 (e a b) h (by decide) (by decide)
theorem zvp{before:Nat->Nat}:∀(m left:Nat) (l:List Nat),∀x∈zaK before m left l,x.length<=l.length+m:=by
 intro m
 induction m with
 | zero =>
  intro left l x b;unfold zaK at b
  split at b
  ·simp only[KB] at b;subst b;omega
  ·cases b
 | succ m ih =>
  intro left l x b;unfold zaK at b
  split at b
  ·simp only[KB] at b;subst b;omega
  ·obtain⟨a,_,c⟩:=List.mem_flatMap.1 b
   split at c
   ·have:=ih _ _ _ c;simp only[lap,Qp,QK] at this;omega
   ·cases c
theorem zpt{r:RelD}{x:List Nat}(h:x∈zbW r):x.length<=64:=by
 unfold zbW at h
 split at h
 ·have:=zvp _ _ _ x h;simpa using this
 ·cases h
def AscB (xs:List (List Nat×OA×Nat)):Prop:=xs.Pairwise fun x y=>∀a b,x.2.1=some a->y.2.1=some b->a.block<b.block
theorem AscB.snoc{xs:List (List Nat×OA×Nat)}{n:Nat}{y:List Nat×OA×Nat}(h:AscB xs)(h1:∀x∈xs,∀a,x.2.1=some a->a.block<n)(h2:∀a,y.2.1=some a->n<=a.block):AscB (xs++[y]):=by
 unfold AscB;rw[JZ];refine⟨h,List.pairwise_singleton _ _,fun x e z f a b d c=>?_⟩;rw[KB.1 f] at c;exact nL (h1 x e a d) (h2 b c)
abbrev zxY:List (List Nat×OA×Nat):=[]
theorem zt8{r:RelD}{m:Nat}{w:Wd}(hr:zK r.to)(hT:Tz64M w)(hm:m<=10000)(hok:okR r=true) :
  Calls PG 132 #[.agg (zf r).toArray,i64 m] w fun e w' =>
   (((zbW r).length<=m/\∃(xs:List (List Nat×OA×Nat)) (p:OA) (c:Nat),e = .returned (.tuple #[.slice p xs.length c,i64 0])/\xs.map (·.1)=zbW r/\AscB xs/\OwnS jt 89 w.heap.size w' p c xs/\∀x∈xs,OwnS zF 3 w.heap.size w' x.2.1 x.2.2 x.1) \/
    (m<(zbW r).length/\e = .returned (.tuple #[.slice none 0 0,i64 5])))/\Bw w w':=by
 refine qA 24 [.agg (zf r).toArray,i64 m] (.c .p (.s .p (.c .p .p))) Tryz.func132 ?_;obtain⟨L,hL⟩:=nm (w.heap.size);refine⟨Unit,fun _=>⟨[(2,At0 L),(3,At0 (L+1)),(4,At0 (L+2)),(5,At0 (L+3))],[]⟩,fun _ X=>(qb X L r/\X.heap[L+1]?=some (.cells #[i64 m] 3 (0,0))/\X.heap[L+2]?=some (.cells #[.slice none 0 0] 90 (0,0))/\X.heap[L+3]?=some (.cells #[i64 0] 33 (0,0)))/\X.heap.size=L+4/\Bw w X,?_,?_⟩
 ·have s1:=wz w (.cells (zf r).toArray 76);have h2:=zt (w.alloc (.cells (zf r).toArray 76)) (.cells #[i64 m] 3 (0,0));have s2:=wz (w.alloc (.cells (zf r).toArray 76)) (.cells #[i64 m] 3 (0,0));have h3:=zt ((w.alloc (.cells (zf r).toArray 76)).alloc (.cells #[i64 m] 3 (0,0))) (.cells #[.slice none 0 0] 90 (0,0));have s3:=wz ((w.alloc (.cells (zf r).toArray 76)).alloc (.cells #[i64 m] 3 (0,0))) (.cells #[.slice none 0 0] 90 (0,0));have y:=zt (((w.alloc (.cells (zf r).toArray 76)).alloc (.cells #[i64 m] 3 (0,0))).alloc (.cells #[.slice none 0 0] 90 (0,0))) (.cells #[i64 0] 33 (0,0));have s4:=wz (((w.alloc (.cells (zf r).toArray 76)).alloc (.cells #[i64 m] 3 (0,0))).alloc (.cells #[.slice none 0 0] 90 (0,0))) (.cells #[i64 0] 33 (0,0));rw[s1] at h2 s2;rw[s2] at h3 s3;rw[s3] at y s4;rw[<- hL] at h2 s2 h3 s3 y s4;have f0:=qO (.cells #[i64 0] 33 (0,0)) (qO (.cells #[.slice none 0 0] 90 (0,0)) (qO (.cells #[i64 m] 3 (0,0)) (zt w (.cells (zf r).toArray 76))));rw[<- hL] at f0;refine⟨(),⟨.cons (by rw[hL];rfl) (.cons (by rw[hL,<- s1];rfl) (.cons (by rw[<- s2];rfl) (.cons (by rw[<- s3];rfl) .nil))),rfl⟩,⟨f0,qO _ (qO _ h2),qO _ h3,y⟩,s4,?_⟩;exact((((zba w _)).alloc (by simp) _).alloc (by simp;omega) _).alloc (by simp;omega) _
 rintro _ X ⟨⟨f0,f1,f2,f3⟩,sX,au⟩;refine⟨_,zc (za f1) (i:=0) rfl,cmo (zrU hr f0) ?_⟩;rintro e Y ⟨rfl,ag⟩;refine brN (by rw[hok,Up hm];rfl) ?_;have g:=zst au ag;obtain⟨M,hM⟩:=nm (Y.heap.size);have bu:L+4<=M:=by have:=ag.size;omega
 refine⟨Unit,fun _=>⟨[(2,At0 L),(3,At0 (L+1)),(4,At0 (L+2)),(5,At0 (L+3)),(6,At0 M)],[]⟩,fun _ V=>V.heap[M]?=some (.cells #[.slice none 0 0] 90 (0,0))/\V.heap.size=M+1/\Bw X V,?_,?_⟩
 ·exact⟨(),⟨.cons rfl (.cons rfl (.cons rfl (.cons rfl (.cons (by rw[hM];rfl) .nil)))),rfl⟩,by rw[hM];exact zt Y _,by rw[hM];exact wz Y _,ag.alloc ag.size _⟩
 rintro _ V ⟨fM,sV,ad⟩;have bd:=zst au ad;have f0:=zb ad f0;have f1:=zb ad f1;have f2:=zb ad f2;have f3:=zb ad f3;refine⟨zf r,zg _,za f0,hlt f0,cmo zxy ?_⟩;rintro e W ⟨rfl,fx,sW,ak⟩;obtain⟨p0,ba,_⟩:=jz hok;have al:=zst bd ak;have bx:=zbn hT;have hI:=zyd hr ba fx (hT.below al);have f1:=zb ak f1;have f2:=zb ak f2;have f3:=zb ak f3;have fM:=zb ak fM;have bw:w.heap.size=L:=hL.symm;clear ad ag g au f0 sX;refine zdW (zgn _) rfl (lb := #[At0 V.heap.size]) rfl rfl hI (UW _) (fun k j=>⟨?_,rfl⟩) (fun b vs W ⟨l,q,c,_,h,_⟩=>by rw[h];rfl) (by decide)
  (fun k=>k=M\/k=L+2\/k=L+3)
  (fun b F Z=>(∃xs,(xs.map (·.1)=b/\b.length<=m/\AscB xs)/\Gath jt 89 90 (L+4) W.heap.size M W (zxC (L+4)) xs F Z)/\F (L+2)/\F (L+3))
  (fun ex b F Z=>ex = .ret/\m<(zbW r).length/\Z.heap[L+2]?=some (.cells #[.slice none 0 0] 90 (0,0))/\Z.heap[L+3]?=some (.cells #[i64 5] 33 (0,0))/\Bw w Z/\W.heap.size<=Z.heap.size/\F (L+2)/\F (L+3)/\∀k,F k->k<Z.heap.size)
  (fun k j=>?_) ⟨?_,?_⟩ (fun ex=>⟨?_,?_⟩) ?_ ?_ ?_ ?_
 ·rcases j with(rfl | rfl) | h
  ·omega
  ·have:=al.size;omega
  ·exact h.elim
 ·rcases j with rfl | rfl <;> omega
 ·rintro b F A C ⟨h,h2,h3⟩ hs;exact⟨(Gath.iter (σ:=List (List Nat)) (f:=fun b xs=>xs.map (·.1)=b/\b.length<=m/\AscB xs) (zgD (L+4)) (by omega)).step b F A C h hs,h2,h3⟩
 ·rintro b F A k ⟨h,_⟩ j;exact(Gath.iter (σ:=List (List Nat)) (f:=fun b xs=>xs.map (·.1)=b/\b.length<=m/\AscB xs) (zgD (L+4)) (by omega)).lt b F A k h j
 ·rintro b F A C ⟨h1,h2,h3,y,h5,h6,h7,h8,h9⟩ hs;exact⟨h1,h2,(hs.same _ (hlt h3) (.inr h7)).trans h3,(hs.same _ (hlt y) (.inr h8)).trans y,h5.trans ⟨hs.os,hs.tape,hs.output,hs.size,fun k j=>hs.same k (nL j h5.size) (.inl ⟨by omega,fun h=>h⟩)⟩,UL h6 hs.size,h7,h8,fun k j=>nL (h9 k j) hs.size⟩
 ·rintro b F A k ⟨h1,h2,h3,y,h5,h6,h7,h8,h9⟩ j;exact⟨h9 k j,fun h=>h⟩
 ·refine⟨⟨zxY,⟨rfl,UZ _,List.Pairwise.nil⟩,⟨UW _,.inl rfl,fun k j=>?_,⟨none,0,fM,OwnS.nil,fun a h=>by cases h⟩,fun x hx=>(by cases hx),Gb _ _⟩⟩,.inr (.inl rfl),.inr (.inr rfl)⟩;rcases j with rfl | rfl | rfl <;> omega
 ·rintro yl b x vs F Y bt ae hJ ⟨l,q,c,ar,rfl,bg,bo,a3⟩ bz ⟨lo,bb⟩;have bl:x=l:=by simpa using ar
  subst bl;refine⟨rfl,F,KeepsG.refl _ _,hJ,?_⟩;rintro o Y2 bh ⟨⟨xs,⟨aj,ay,am⟩,u⟩,ah,ai⟩;have b0:b.length<(zbW r).length:=by
   obtain⟨t,ht⟩:=ae;rw[<- ht];simp only[lap,Qp];omega
  have bv:xs.length=b.length:=by rw[<- aj,QJ]
  have a1:x∈zbW r:=ae.subset (by simp);have bq:=zpt a1;have a0:SlR zF Y2 q x:=by
   rw[bh];refine jr bg fun a d=>zj fun e=>?_;obtain⟨br,ao⟩:=a3 a d;rw[e,bb] at ao
   cases ao
  obtain⟨p,c',y,h5,h6⟩:=u.row;have a8:L+4<=W.heap.size:=by omega
  have g1:Y2.heap[L+1]?=some (.cells #[i64 m] 3 (0,0)):=(u.old.block _ (by omega)).trans f1;refine⟨_,zc (za y) (i:=0) rfl,_,zc (za g1) (i:=0) rfl,biE (fun hc=>?_) fun hc=>?_⟩
  ·have hc:((xs.length:Nat):Int)=(m:Int):=dT hc;have g2:Y2.heap[L+2]?=some (.cells #[.slice none 0 0] 90 (0,0)):=(u.old.block _ (by omega)).trans f2;have g3:Y2.heap[L+3]?=some (.cells #[i64 0] 33 (0,0)):=(u.old.block _ (by omega)).trans f3;refine zm k90 g2 (o:=0) (v := .slice none 0 0) rfl rfl (by show 0<1;decide) rfl fun Z1 af z a6=>zm k33 ((z.block (L+3) (hlt g3) (by simp)).trans g3) (o:=0) (v:=i64 5) rfl rfl (by show 0<1;decide) rfl fun Z2 ap ab bi=>⟨F,⟨rfl,by omega,(ab.block (L+2) (hlt af) (by simp)).trans af,ap,?_,by have:=u.size;omega,ah,ai,fun k j=>by have:=u.lt k j;omega⟩,(KeepsG.grown z ah).trans (KeepsG.grown ab ai)⟩;have g:=al.trans (u.old.mono (by omega));exact(g.trans (zl z g.size (by omega))).trans (zl ab (by have:=g.size;omega) (by omega))
  ·have hc:¬((xs.length:Nat):Int)=(m:Int):=dF hc;refine DrawE.ord [4,5] [0,1,2,3,4,5] (by kernel_rfl) ?_;have a2:Bw Y2 Y2.drew:=(Gb _ _).drew;refine⟨_,zc (za (hdr y)) (i:=0) rfl,cmo (zuh (a0.below a2) (by omega) bo) ?_⟩;rintro e Y3 ⟨⟨q1,k1,rfl,o1⟩,az⟩;refine⟨az,?_⟩;obtain⟨nx,an⟩:∃nx:List Nat×OA×Nat,nx=(x,q1,k1):=⟨_,rfl⟩;have a7:[Value.slice q1 x.length k1]=jt.enc nx:=by rw[an];rfl
   refine⟨⟨by decide,by decide,rfl⟩,jt.enc nx,by rw[<- a7];rfl,?_⟩;have bm:Bw Y3 (Y3.alloc (.cells (jt.enc nx).toArray 89)):=zba _ _;refine⟨bm,?_⟩;have bf:∀(G:Nat->Prop) (Z:Wd),(∀k,Y2.heap.size<=k->k<Y3.heap.size->Z.heap[k]?=Y3.heap[k]?)->(∀k,Y2.heap.size<=k->k<Y3.heap.size->G k)->zxC (L+4) G Z nx:=by
    intro G Z hs hg;rw[an];have ol:∀a,q1=some a->Y2.heap.size<=a.block/\a.block<Y3.heap.size:=fun a d=>⟨(zz o1 d).1,(zz o1 d).2.1⟩;have bp:=u.size;exact⟨OwnS.lower (o1.same fun a d=>hs _ (ol a d).1 (ol a d).2) (by show L+4<=Y2.heap.size;omega),fun a d=>hg _ (ol a d).1 (ol a d).2⟩
   obtain⟨v,Y5,a4,Z,aq,F',a9,bc,a5⟩:=u.step (P:=PG) (ty:=90) (cap1:=1) (zgD (L+4)) (by decide) Tryz.underlying90 k89 rfl rfl rfl k90 rfl (by omega) (by omega) (a2.trans az) nx (by omega) (by show(xs.length+1)*24<=_;omega) bf p c' y;exact SatR.mk a4 (SatR.mk aq ⟨F',⟨⟨_,⟨by rw[QM,aj,an];rfl,by simp only[lap,Qp,QK];omega,am.snoc (n:=Y2.heap.size) (fun x' bn a d=>(zz (u.nest x' bn).1 d).2.1) (fun a d=>by rw[an] at d;exact(zz o1 d).1)⟩,a9⟩,a5 _ ah,a5 _ ai⟩,bc⟩)
 ·rintro D F Y hD aa ⟨⟨xs,⟨aj,ay,am⟩,u⟩,ah,ai⟩ ac;obtain⟨p,c',y,h5,h6⟩:=u.row;have a8:L+4<=W.heap.size:=by omega
  have g2:Y.heap[L+2]?=some (.cells #[.slice none 0 0] 90 (0,0)):=(u.old.block _ (by omega)).trans f2;have g3:Y.heap[L+3]?=some (.cells #[i64 0] 33 (0,0)):=(u.old.block _ (by omega)).trans f3;refine⟨_,zc (za y) (i:=0) rfl,zm k90 g2 (o:=0) (v := .slice p xs.length c') rfl rfl (by show 0<1;decide) rfl fun Z1 af z a6=>zm k33 ((z.block (L+3) (hlt g3) (by simp)).trans g3) (o:=0) (v:=i64 0) rfl rfl (by show 0<1;decide) rfl fun Z2 ap ab bi=>?_⟩;have k2:∀k,k<Y.heap.size->k≠L+2->k≠L+3->Z2.heap[k]?=Y.heap[k]?:=fun k j n1 n2=>(ab.block k (by rw[a6];exact j) (by simpa using n2)).trans (z.block k j (by simpa using n1));refine⟨_,rfl,(k2 D (hlt ac) (by omega) (by omega)).trans ac,?_⟩;have bk:=(ab.block (L+2) (hlt af) (by simp)).trans af;have aw:D≠L+2:=fun e=>aa (e▸ah);have av:D≠L+3:=fun e=>aa (e▸ai);have g:=al.trans (u.old.mono (by omega));have b2:=(g.trans (zl z g.size (by omega))).trans (zl ab (by have:=g.size;omega) (by omega));have kp:∀a:Addr,L+4<=a.block->F a.block->a.block<Y.heap.size->(Z2.putObj D (.deferred none)).heap[a.block]?=Y.heap[a.block]?:=fun a h1 h2 h3=>(zj fun e=>by rw[<- e] at aa;exact aa h2).trans (k2 _ h3 (by omega) (by omega));refine⟨.slice p xs.length c',zc (za ((zj fun e=>aw e.symm).trans bk)) (i:=0) rfl,i64 0,zc (za ((zj fun e=>av e.symm).trans ap)) (i:=0) rfl,.inl ⟨by rw[<- aj,QJ] at ay ⊢;exact ay,xs,p,c',rfl,aj,am,?_,fun x hx=>?_⟩,qC b2 (by omega) _⟩
  ·exact OwnS.lower (h5.same fun a d=>kp a (zz h5 d).1 (h6 a d) (zz h5 d).2.1) (by omega)
  ·obtain⟨ax,bj⟩:=u.nest x hx;exact OwnS.lower (ax.same fun a d=>kp a (zz ax d).1 (bj a d) (zz ax d).2.1) (by omega)
 ·rintro D ex b F Y hD aa ae ⟨rfl,be,h3,y,h5,h6,h7,h8,h9⟩ ac;refine⟨_,rfl,ac,?_⟩;have aw:D≠L+2:=fun e=>aa (e▸h7);have av:D≠L+3:=fun e=>aa (e▸h8);exact⟨_,zc (za ((zj fun e=>aw e.symm).trans h3)) (i:=0) rfl,_,zc (za ((zj fun e=>av e.symm).trans y)) (i:=0) rfl,.inr ⟨be,rfl⟩,qC h5 (by have:=al.size;omega) _⟩
theorem zuc{p:OA}{cap:Nat}{l:List Nat}{s:Nat}{w:Wd}(hl:SlR zF w p l)(hn:l.length<=140737488351232) :
  Calls PG 195 #[.slice p l.length cap,i64 s] w fun e w'=>∃n:Int,e = .returned (i64 n)/\decide (0<=n)=l.any (fun q=>decide (q=s))/\w=w':=by
 refine zD 19 [.slice p l.length cap,i64 s] Tryz.func195 ?_;refine⟨Nat,fun k=>⟨[(0,.slice p l.length cap),(1,i64 s),(7,i64 l.length),(8,i64 (k:Nat))],[]⟩,fun k X=>k<=l.length/\(∀q∈l.take k,¬q=s)/\w=X,fun k=>l.length-k,0,(cvE rfl rfl),⟨UZ _,by simp,rfl⟩,?_⟩;rintro k _ ⟨m,d,rfl⟩;dsimp only at m d ⊢;refine biE (fun g=>?_) fun g=>?_
 ·have g:(k:Int)<(l.length:Int):=dT g;have a:k<l.length:=by omega
  obtain⟨b,o,rfl,r,j⟩:=hl.at a;refine⟨k,rfl,a,i64 l[k],zc (j k a) (i:=0) rfl,biE (fun h=>?_) fun h=>?_⟩
  ·have h:(s:Int)=(l[k]:Nat):=dT h;refine⟨k,rfl,?_,rfl⟩;rw[Up (by omega)];symm;rw[Qh];exact⟨l[k],gM _,Up (by omega)⟩
  ·have h:¬(s:Int)=(l[k]:Nat):=dF h;refine⟨(k+1:Nat),(ze (by omega)).trans (by omega),k+1,(cvE rfl rfl),⟨a,?_,rfl⟩,zdc (by omega)⟩;rw[tsg a];intro q f;rcases QN.1 f with f | f
   ·exact d q f
   ·simp only[KB] at f;rw[f];exact fun e=>h (by rw[e])
 ·have g:¬(k:Int)<(l.length:Int):=dF g;obtain rfl:k=l.length:=by omega
  rw[Qt] at d;refine⟨-1,rfl,?_,rfl⟩;symm;show _=false;rw[KM];exact fun q f=>by simpa using d q f
theorem zny{p:OA}{cap:Nat}{l:List Nat}{s:Nat}{w:Wd}(hl:SlR zF w p l)(hn:l.length<=140737488351232) :
  Calls PG 128 #[.slice p l.length cap,i64 s] w fun e w'=>e = .returned (.bool (l.any fun q=>decide (q=s)))/\w=w':=by
 refine zD 9 [.slice p l.length cap,i64 s] Tryz.func128 ?_;refine cmo (zuc hl hn) ?_;rintro e _ ⟨n,rfl,h,rfl⟩;exact⟨rb h,rfl⟩
abbrev zkZ (l:List Nat):List Value:=l.map fun n:Nat=>i64 n
abbrev RowI (Z:Wd) (g:Nat) (l:List Nat):Prop:=Z.heap[g]?=some (.cells (zkZ l).toArray 3 (0,0))
theorem zfJ:∀l:List Nat,l.flatMap zF.enc=zkZ l
 | []=>rfl
 | a::l=>by
  show i64 a::l.flatMap zF.enc=i64 a::zkZ l;rw[zfJ l]
theorem zlL:∀n,zcO [Value.int IntKind.i64 0] n=zkZ (List.replicate n 0)
 | 0=>rfl
 | n+1=>by
  show Value.int IntKind.i64 0::zcO [Value.int IntKind.i64 0] n=i64 0::zkZ (List.replicate n 0);rw[<- zlL n];rfl
theorem RowI.sl{Z:Wd}{g:Nat}{l:List Nat}(h:RowI Z g l):SlR zF Z (some ⟨g,0,none⟩) l :=
 SlR.of_cells (hlt h) (by rw[zfJ];exact za h)
theorem zqL{α:Type}{f:Nat->α}{n j:Nat}(h:j<n):((List.range j).map f++[f j]) <+: (List.range n).map f:=by
 obtain⟨m,rfl⟩:∃m,n=(j+1)+m:=⟨n-(j+1),by omega⟩;rw[List.range_add,QM];exact⟨_,by rw[QS,QM];rfl⟩
def StD (pre:List (List Nat)) (vs:List Value) (W:Wd):Prop:=∃l q,pre.getLast?=some l/\vs=[.slice q l.length l.length]/\SlR zF W q l/\∀a,q=some a->∃cur,W.heap[a.block]?=some (.cells cur 3 (0,0))
section
variable{bx:Nat}{sizes:List Nat}{q:OA}{c:Nat}{W0:Wd}
theorem zwi(fx:W0.heap[bx]?=some (.cells #[.slice q sizes.length c] 89 (0,0)))(hl:SlR zF W0 q sizes)(hql:∀a,q=some a->a.block<W0.heap.size)(hn:sizes.length<=1000)(hm:∀n∈sizes,n<=1000000) :
  zkC PG 127 [At0 bx] (qt sizes) W0 (fun k=>k=bx\/∃a,q=some a/\k=a.block) (fun _=>False) StD:=by
 intro yl F0 J Jx W bl a6 a8 hJ bt hy h0;have aj:=(a6 bx (.inl (.inl rfl))).trans fx;have a5:SlR zF W q sizes:=jr hl fun a r=>a6 _ (.inl (.inr ⟨a,r,rfl⟩));refine zD 43 [.func (.yield yl) #[] #[],At0 bx] Tryz.func127 ?_;refine⟨_,zc (za aj) (i:=0) rfl,cmo (zny (s:=0) a5 (by omega)) ?_⟩;rintro e _ ⟨rfl,rfl⟩;refine biE (fun h=>?_) fun h=>?_
 ·have h:(sizes.any fun q=>decide (q=0))=true:=h;obtain⟨z,hz,ao⟩:=Qh.1 h;have ao:z=0:=dT ao;subst ao;have hs:qt sizes=[]:=by unfold qt;rw[ze2 (by simpa using hz)];rfl
  rw[hs];exact⟨⟨_,rfl⟩,.inl ⟨F0,h0⟩⟩
 have h:(sizes.any fun q=>decide (q=0))=false:=h;obtain⟨rs,ab⟩:=nm (sizes.reverse);have y:∀n∈rs,n≠0:=fun n hn e=>by
  rw[KM] at h;exact h n (by rw[ab] at hn;simpa using hn) (Up e)
 have ad:rs.length=sizes.length:=by rw[ab,Kk]
 refine⟨_,zc (za aj) (i:=0) rfl,zj6 Tryz.underlying89 k3 rfl rfl (by decide) sizes.length (by show 8*_<=_;omega) (by omega) fun X fX ah sX=>?_⟩;rw[zlL] at fX;obtain⟨D,hD⟩:∃D:Nat->List Nat,D=fun j=>(zaS rs j).reverse:=⟨_,rfl⟩;have be:∀j,(D j).length=sizes.length:=fun j=>by rw[hD];show((zaS rs j).reverse).length=_;rw[Kk,zfX,ad]
 have bj:qt sizes=(List.range (qi rs)).map D:=by unfold qt;rw[hD,ab]
 have hP:0<qi rs:=zjU y;have bb:D 0=List.replicate sizes.length 0:=by
  rw[hD];show(zaS rs 0).reverse=_;rw[zkm,List.reverse_replicate,ad]
 rw[<- bb] at fX;rw[bj] at hy ⊢;obtain⟨g,hg⟩:=nm (W.heap.size);rw[<- hg] at fX;have bk:=hlt aj;refine⟨Nat×(Nat->Prop),fun s=>⟨[(0,.func (.yield yl) #[] #[]),(1,At0 bx),(3,.slice (some ⟨g,0,none⟩) sizes.length sizes.length)],[]⟩,
  fun s Z=>s.1<qi rs/\J ((List.range s.1).map D) s.2 Z/\RowI Z g (D s.1)/\¬s.2 g/\W.heap.size<=Z.heap.size/\Z.heap[bx]?=some (.cells #[.slice q sizes.length c] 89 (0,0))/\¬s.2 bx/\RowF zF W.heap.size s.2 Z q sizes,
  fun s=>qi rs-s.1,(0,F0),⟨.cons rfl (.cons rfl (.cons (by rw[hg];rfl) .nil)),rfl⟩,
  ⟨hP,hJ.step _ _ _ _ h0 (.below ah),fX,fun h=>by have:=(hJ.lt _ _ _ _ h0 h).1;omega,ah.size,zb ah aj,a8 _ (.inl rfl),⟨a5.below ah,fun a r=>⟨by have:=hql a r;omega,a8 _ (.inr ⟨a,r,rfl⟩)⟩⟩⟩,?_⟩
 rintro⟨j,F⟩ Z ⟨hj,ar,fZ,ak,aq,ae,ai,an⟩;dsimp only at hj ar fZ ak ae ai an ⊢;have u:((List.range j).map D++[D j]) <+: (List.range (qi rs)).map D:=zqL hj;refine YieldR.mono (hy _ (D j) [.slice (some ⟨g,0,none⟩) sizes.length sizes.length] F Z ar ⟨D j,_,by simp,by rw[be j],fZ.sl,fun a r=>(by cases r;exact⟨_,fZ⟩)⟩ u) ?_;rintro v Y (⟨rfl,F',ag,kY⟩ | ⟨rfl,F',ag⟩)
 ·refine brT ?_;have av:=hlt fZ;have fY:RowI Y g (D j):=(kY.same g av ak).trans fZ;have af:¬F' g:=fun h=>by
   rcases kY.fp g h with h | h
   ·exact ak h
   ·omega
  have a2:=(kY.same bx (hlt ae) ai).trans ae;have az:¬F' bx:=fun h=>by
   rcases kY.fp bx h with h | h
   ·exact ai h
   ·have:=hlt ae;omega
  have aw:=an.keep aq kY (fun _ _ h=>h);have a9:=UL aq kY.size;have al:J ((List.range (j+1)).map D) F' Y:=by
   rw[QS,QM];exact ag
  clear ag u fZ ae an ar aq av ak ai kY;refine⟨((sizes.length:Nat):Int)-1,ze (by omega),?_⟩;have ay:W.heap.size<=g:=by omega
  have a4:bx≠g:=by omega
  refine⟨Nat,fun t=>⟨[(0,.func (.yield yl) #[] #[]),(1,At0 bx),(3,.slice (some ⟨g,0,none⟩) sizes.length sizes.length),(4,i64 (((sizes.length:Nat):Int)-1-(t:Nat)))],[]⟩,
   fun t V=>t<=sizes.length/\zjs rs j t/\RowI V g ((List.replicate t 0++(zaS rs j).drop t).reverse)/\J ((List.range (j+1)).map D) F' V/\W.heap.size<=V.heap.size/\V.heap[bx]?=some (.cells #[.slice q sizes.length c] 89 (0,0))/\RowF zF W.heap.size F' V q sizes,fun t=>sizes.length-t,0,
   ⟨.cons rfl (.cons rfl (.cons rfl (.cons (by rw[Int.ofNat_zero,Int.sub_zero];rfl) .nil))),rfl⟩,⟨UZ _,zoC _ _,by rw[hD] at fY;exact fY,al,a9,a2,aw⟩,?_⟩
  clear fY a2 aw al a9;rintro t V ⟨ht,hc,fV,w,bm,aa,f⟩;dsimp only at ht hc fV w ⊢;have bp:(zaS rs j).length=sizes.length:=by rw[zfX,ad]
  refine DrawE.ord [] [0,1,2,3,4,5,6,7,8,9,10,11,12,13] (by kernel_rfl) (biE (fun hi=>?_) fun hi=>?_)
  ·have hi:(0:Int)<=((sizes.length:Nat):Int)-1-(t:Nat):=dT hi;have a3:t<sizes.length:=by omega
   obtain⟨i,br⟩:∃i,i+t+1=sizes.length:=⟨sizes.length-1-t,by omega⟩;have bg:((sizes.length:Nat):Int)-1-(t:Nat)=(i:Nat):=by omega
   rw[bg];obtain⟨d,hd⟩:∃d,(zaS rs j)[t]?=some d:=⟨_,gE (by omega)⟩;obtain⟨n,hn⟩:∃n,rs[t]?=some n:=⟨_,gE (by omega)⟩;have p:i<sizes.length:=by omega
   have a0:sizes[i]=n:=by
    have:=JJ (l:=sizes) (i:=t) a3;rw[<- ab,hn,show sizes.length-1-t=i by omega,gE p] at this;exact(Uc this).symm
   have ax:n∈sizes:=by rw[<- a0];exact gM p
   have bo:=hm n ax;have bu:n≠0:=y n (by rw[ab];simpa using ax);have jO:=zwI hd (i:=i) (by omega);have bv:d<n:=by
    obtain⟨A,ns,k,c1,c2,c3,c4,c5⟩:=hc
    cases ns with
    | nil=>rw [c1,QG,JI (by omega)] at hn;cases hn
    | cons m ns =>
     have bc:m=n:=by
      rw[c1,Jm (by omega),c2,UN] at hn;exact Uc hn
     have:=Gi (fun l=>l[0]?) c4;simp only[Kx,UK] at this;rw[hd] at this;have:d=k%m:=Uc this;rw[this,bc];exact Ge _ (by omega)
   have a1:((List.replicate t 0++(zaS rs j).drop t).reverse).length=sizes.length:=by simp;omega
   refine⟨i,rfl,p,?_⟩;have ba:(zkZ (List.replicate t 0++(zaS rs j).drop t).reverse)[i*1]?=some (i64 d):=by
    rw[UX,KT,jO];rfl
   refine⟨i64 d,zc (za (hdr fV)) ba,_,zc (za (hdr aa)) (i:=0) rfl,?_⟩;obtain⟨bq,oq,bd,bn,a7⟩:=f.row.at p;subst bd;refine⟨i,rfl,p,i64 n,by rw[<- a0];exact zc (zw (Gb _ V).drew (a7 i p)) (i:=0) rfl,((n:Nat):Int)-1,ze (by omega),biE (fun he=>?_) fun he=>?_⟩
   ·have he:(d:Int)=(n:Int)-1:=dT he;have x:=zpc hd (i:=i) (by omega) 0;refine⟨i,rfl,p,zm k3 (hdr fV) (o:=0+i*1) (v:=i64 0) rfl rfl (by rw[QJ,a1];omega) rfl fun V1 ac am bf=>⟨((sizes.length:Nat):Int)-1-((t+1:Nat):Int),(ze (by omega)).trans (by omega),?_⟩⟩;have b:V.grownBy V1 (some g):=zd (zi (Gb _ V).drew) am;have kV:KeepsG (fun k=>k=g) (fun _=>False) V V1:=⟨b.os,b.tape,b.output,b.size,fun k hk hf=>b.block k hk (fun e=>hf (by cases e;rfl)),fun k h=>h.elim⟩;have bi:=b.size;refine⟨t+1,(cvE rfl rfl),⟨a3,zoE y hc hn hd (by omega),?_,hJ.step _ _ _ _ w (StepG.grown b (.inl ay) af),by omega,(b.block bx (hlt aa) (by simpa using a4)).trans aa,⟨jr f.row fun a r=>b.block _ (by have:=(f.out a r).1;omega) (by have:=(f.out a r).1;simp;omega),f.out⟩⟩,zdc (by omega)⟩;show RowI V1 g _;rw[<- zsp,<- x];rw[UX,UQ] at ac;refine ac.trans ?_;unfold zkZ;rw[UH];rfl
   ·have he:¬(d:Int)=(n:Int)-1:=dF he;have ap:=zoD y hc hn hd (by omega);have au:=zoF y hc hn hd (by omega) hj;have x:=zpc hd (i:=i) (by omega) (d+1);refine brN (Ue (by omega)) ⟨i,rfl,p,i64 d,zc (za (hdr fV)) ba,nxI (by omega) ⟨i,rfl,p,zm k3 (hdr fV) (o:=0+i*1) (v:=i64 ((d+1:Nat):Int)) rfl rfl (by rw[QJ,a1];omega) rfl fun V1 ac am bf=>?_⟩⟩;have b:V.grownBy V1 (some g):=zd (zi (Gb _ V).drew) am;have bi:=b.size;refine⟨(j+1,F'),(cvE rfl rfl),⟨au,hJ.step _ _ _ _ w (StepG.grown b (.inl ay) af),?_,af,by omega,(b.block bx (hlt aa) (by simpa using a4)).trans aa,az,⟨jr f.row fun a r=>b.block _ (by have:=(f.out a r).1;omega) (by have:=(f.out a r).1;simp;omega),f.out⟩⟩,zdc (by omega)⟩;show RowI V1 g (D (j+1));rw[hD];show RowI V1 g (zaS rs (j+1)).reverse;rw[ap,<- x];rw[UX,UQ] at ac;refine ac.trans ?_;unfold zkZ;rw[UH]
  ·have hi:¬(0:Int)<=((sizes.length:Nat):Int)-1-(t:Nat):=dF hi;have bh:t=rs.length:=by omega
   rw[bh] at hc;have he:=zrv hc hj;refine brF (brE (Up (by omega)) ?_);rw[he] at w;exact⟨⟨_,rfl⟩,.inl ⟨F',hJ.step _ _ _ _ w (.below (Gb _ V).drew)⟩⟩
 ·exact brF ⟨⟨_,rfl⟩,.inr ⟨_,F',u,ag⟩⟩
end
def poG (ev:List Ev) (k:Nat):Nat->Nat:=fun i=>if i<k then zb3 ev i else 0
theorem zpm(ev:List Ev)(k:Nat):upd (poG ev k) k (zb3 ev k)=poG ev (k+1):=by
 funext i;unfold upd poG;by_cases h:i=k
 ·rw[Gn h,Gn (by omega),h]
 ·rw[Gm h];by_cases a:i<k
  ·rw[Gn a,Gn (by omega)]
  ·rw[Gm a,Gm (by omega)]
theorem zmo(ev:List Ev)(k:Nat):upd (poG ev k) k 0=poG ev k:=by
 funext i;unfold upd poG;by_cases h:i=k
 ·rw[Gn h,Gm (by omega)]
 ·rw[Gm h]
theorem zuM(ev:List Ev):poG ev ev.length=zb3 ev:=by
 funext i;unfold poG
 split
 ·rfl
 ·unfold zb3;rw[JI (by omega)]
section
variable{p:OA}{cap:Nat}{ev:List Ev}{w:Wd}
theorem zdX(hl:SlR evE w p ev)(hn:ev.length<=48):CB 57 #[.slice p ev.length cap] w (.agg (zf (poR ev)).toArray):=by
 refine qA 47 [.slice p ev.length cap] (.s .p (.c .p .p)) Tryz.func57 ?_;obtain⟨L,hL⟩:=nm (w.heap.size);have ak:=zt w (.cells (zf zC).toArray 76 (0,0));have aj:Bw w (w.alloc (.cells (zf zC).toArray 76 (0,0))):=zba w _;have ae:=wz w (.cells (zf zC).toArray 76 (0,0));refine⟨Unit,fun _=>⟨[(0,.slice p ev.length cap),(2,At0 L),(3,At0 (L+1))],[]⟩,fun _ X=>qb X L zC/\qb X (L+1) ⟨ev.length,fun _=>0⟩/\X.heap.size=L+2/\Bw w X,?_,?_⟩
 ·refine⟨zf ⟨ev.length,fun _=>0⟩,rfl,zo (X:=w.alloc (.cells (zf zC).toArray 76 (0,0))) (v := .agg (zf ⟨ev.length,fun _=>0⟩).toArray) k76 (zg _) rfl (zH _) fun V d q sV=>?_⟩;rw[ae] at q sV;exact⟨(),⟨.cons rfl (.cons (by rw[hL];rfl) (.cons (by rw[hL,<- ae];rfl) .nil)),rfl⟩,by rw[hL];exact zb d ak,by rw[hL];exact q,by rw[hL];exact sV,(zst aj d)⟩
 rintro _ X ⟨f0,f1,sX,ai⟩;refine⟨Nat,fun k=>⟨[(0,.slice p ev.length cap),(2,At0 L),(3,At0 (L+1)),(10,.slice p ev.length cap),(11,i64 ev.length),(12,i64 (k:Nat))],[]⟩,
  fun k V=>k<=ev.length/\qb V (L+1) ⟨ev.length,poG ev k⟩/\qb V L zC/\L+1<V.heap.size/\Bw w V,fun k=>ev.length-k,0,
  (cvE rfl rfl),⟨UZ _,f1,f0,by omega,ai⟩,?_⟩
 rintro k V ⟨hk,q,t,sV,d⟩;dsimp only at hk q ⊢;refine biE (fun m=>?_) fun m=>?_
 ·have m:(k:Int)<(ev.length:Int):=dT m;have f:k<ev.length:=by omega
  obtain⟨e,n⟩:∃e,ev[k]=e:=⟨_,rfl⟩;have af:ev[k]?=some e:=by rw[<- n];exact gE f
  obtain⟨bp,op,rfl,ag,ad⟩:=hl.at f;refine⟨k,rfl,f,evE.enc e,rfl,by rw[<- n];exact zw d (ad k f),nL ag d.size,zo (X:=V) (v := .agg (evE.enc e).toArray) k80 rfl rfl (Qg.2 fun u hu=>evE.one e u hu) fun Y r fY sY=>?_⟩;obtain⟨b,hb⟩:=nm (V.heap.size);rw[<- hb] at fY;have eb:some (Value.pointer (some ⟨V.heap.size,0,none⟩))=some (At0 b):=by rw[hb]
  have x:=zst d r;have al:L+1<b:=by omega
  have ab:=zb r q;have ac:=zb r t;refine⟨i64 e.th,by rw[<- hb];exact zc (za fY) (i:=0) rfl,biE (fun h=>?_) fun h=>?_⟩
  ·have h:e.th = -1:=dT h;have hr:zb3 ev k=0:=by
    unfold zb3;rw[af];exact Gn h
   refine nxI (by omega) ⟨k+1,(cvE rfl rfl),⟨f,?_,ac,by omega,x⟩,zdc (by omega)⟩;rw[<- zpm,hr,zmo];exact ab
  have h:¬e.th = -1:=dF h;have hr:zb3 ev k=ziq e.th (k+1) (ev.drop (k+1)) 0:=by
   unfold zb3;rw[af];exact Gm h
  refine nxI (by omega) ?_;refine⟨Nat×Nat,fun s=>⟨[(0,.slice (some ⟨bp,op,none⟩) ev.length cap),(2,At0 L),(3,At0 (L+1)),(4,i64 (k:Nat)),(5,At0 b),(6,i64 (s.1:Nat)),(10,.slice (some ⟨bp,op,none⟩) ev.length cap),(11,i64 ev.length),(12,i64 (k:Nat))],[]⟩,
   fun s Z=>s.1<=ev.length/\zb3 ev k=ziq e.th s.1 (ev.drop s.1) s.2/\s.2<2^64/\qb Z (L+1) ⟨ev.length,upd (poG ev k) k s.2⟩/\qb Z L zC/\Z.heap[b]?=some (.cells (evE.enc e).toArray 80 (0,0))/\Bw w Z,fun s=>ev.length-s.1,(k+1,0),
   ⟨.cons rfl (.cons rfl (.cons rfl (.cons rfl (.cons eb (.cons rfl (.cons rfl (.cons rfl (.cons rfl .nil)))))))),rfl⟩,⟨f,hr,(by decide:0<2^64),by rw[zmo];exact ab,ac,fY,x⟩,?_⟩
  clear fY ab ac x r sY t q d sV;rintro⟨j,s⟩ Z ⟨hj,a,hs,fM,fL,fb,g⟩;dsimp only at hj a hs fM ⊢;refine biE (fun m=>?_) fun m=>?_
  ·have m:(j:Int)<(ev.length:Int):=dT m;have l:j<ev.length:=by omega
   have z:ev.drop j=ev[j]::ev.drop (j+1):=(JD l).symm;rw[z] at a;have a:zb3 ev k=ziq e.th (j+1) (ev.drop (j+1)) (if ev[j].th=e.th then s|||2^j else s):=a;refine DrawE.ord [] [0,1,2,3,4,5,6,7] (by kernel_rfl) ⟨j,rfl,l,i64 ev[j].th,zc (zw g (ad j l)) (i:=0) rfl,i64 e.th,zc (za (hdr fb)) (i:=0) rfl,?_⟩;have aa:(zf ⟨(ev.length:Int),upd (poG ev k) k s⟩)[1+k]?=some (s64 s):=by
    have:=zfB ⟨(ev.length:Int),upd (poG ev k) k s⟩ (i:=k) (by omega);rw[this];show some (s64 (upd (poG ev k) k s k))=_;rw[zN]
   have ah:Bw Z Z.drew:=(Gb _ Z).drew;refine biE (fun n=>?_) fun n=>?_
   ·have n:ev[j].th=e.th:=dT n;rw[Gn n] at a;refine DrawE.ord [9] [0,1,2,3,4,5,6,7,8,9] (by kernel_rfl) ⟨k,rfl,by omega,?_⟩;refine⟨s64 s,by rw[UX,UB];exact zc (za (hdr (hdr fM))) aa,by omega,_,zab (e:=j) (by omega),_,zau hs (qc (by omega)),k,rfl,by omega,?_⟩;refine zm k73 (hdr (hdr fM)) (o:=0+1+k*1) (v:=s64 (s|||2^j)) rfl rfl (by rw[zg];omega) rfl fun S fS gS sS=>?_;rw[UQ,UX,zfA _ (show k<48 by omega)] at fS;have y:Z.grownBy S (some (L+1)):=zd (zi (Gb _ Z).drew) (zd (zi (Gb _ _).drew) gS);refine nxI (by omega) ⟨(j+1,s|||2^j),(cvE rfl rfl),⟨l,a,KX hs (qc (by omega)),?_,(y.block L (hlt fL) (by simp)).trans fL,(y.block b (hlt fb) (by simp;omega)).trans fb,g.trans (zl y g.size (by omega))⟩,zdc (by omega)⟩;have:upd (upd (poG ev k) k s) k (s|||2^j)=upd (poG ev k) k (s|||2^j):=by
     funext i;unfold upd
     split <;> rfl
    rw[this] at fS;exact fS
   ·have n:¬ev[j].th=e.th:=dF n;rw[Gm n] at a;exact nxI (by omega) ⟨(j+1,s),(cvE rfl rfl),⟨l,a,hs,fM,fL,fb,(zst g ah)⟩,zdc (by omega)⟩
  ·have m:¬(j:Int)<(ev.length:Int):=dF m;have:j=ev.length:=by omega
   subst this;rw[Qj] at a;have a:zb3 ev k=s:=a;refine nxI (by omega) ⟨k+1,(cvE rfl rfl),⟨f,?_,fL,hlt fM,g⟩,zdc (by omega)⟩;rw[<- zpm,a];exact fM
 ·have m:¬(k:Int)<(ev.length:Int):=dF m;obtain rfl:k=ev.length:=by omega
  rw[zuM] at q;exact⟨zf (poR ev),zg _,za q,hlt q,zp (v := .agg (zf (poR ev)).toArray) k76 t rfl rfl (zH _) ⟨zf (poR ev),zg _,za (zn t),rfl,zk d (by omega) _⟩⟩
end
structure RelAt (X:Wd) (b o:Nat) (T:TypeId) (A Z:List Value) (r:RelD):Prop where
 at_:A.length=o
 cells:X.heap[b]?=some (.cells (A++(zf r++Z)).toArray T (0,0))
section
variable{X:Wd}{b o:Nat}{T:TypeId}{A Z:List Value}{r:RelD}
theorem RelAt.cell(h:RelAt X b o T A Z r){i:Nat}(hi:i<48):X.cell? ⟨b,o+1+i*1,none⟩=some (s64 (r.to i)):=by
 have:(A++(zf r++Z))[o+1+i*1]?=some (s64 (r.to i)):=by
  rw[UX,UB,jw h.at_,Jq (by rw[zg];omega),zfB r hi]
 have a:=zc (za h.cells) this;rw[UQ] at a;exact a
theorem RelAt.set(h:RelAt X b o T A Z r){i:Nat}(hi:i<48)(v:Nat):(A++(zf r++Z)).set (o+1+i*1) (s64 v)=A++(zf ⟨r.n,upd r.to i v⟩++Z):=by
 rw[UX,UB,qT h.at_,List.set_append_left _ _ (by rw[zg];omega),zfA r hi]
theorem RelAt.len(h:RelAt X b o T A Z r):(A++(zf r++Z)).length=o+49+Z.length:=by
 rw[lap,lap,zg,h.at_];omega
theorem RelAt.same{Y:Wd}(h:RelAt X b o T A Z r)(hs:Y.heap[b]?=X.heap[b]?):RelAt Y b o T A Z r:=⟨h.at_,hs.trans h.cells⟩
def zsw (f:Nat) (ps:List (Nat×Nat)):Prop:=∀p∈ps,f+p.1<48/\f+p.2<48
theorem zfD{f:Nat}:∀{ps:List (Nat×Nat)} {to:Nat->Nat},zK to->zsw f ps->zK (zgu f ps to)
 | [],_,h,_=>h
 | p::ps,to,h,hp=>by
  have c:=hp p KA;exact zfD (ps:=ps) (zhy h (KX (h _ c.1) (qc (by omega)))) fun q a=>hp q (JV _ a)
theorem znI{n:Nat}(h:n<256):((UInt8.ofNat n).toNat:Int)=(n:Nat):=by
 have:(UInt8.ofNat n).toNat=n:=by simp;omega
 rw[this]
theorem zsv{w:Wd}{q:OA}{cap f:Nat}{ps:List (Nat×Nat)}(hr:RelAt w b o T A Z r)(hw:zK r.to)(hl:SlR prE w q ps)(hqb:∀a,q=some a->a.block≠b)(hn:ps.length<=100000)(hp:zsw f ps) :
  Calls PG 130 #[.pointer (some ⟨b,o,none⟩),.slice q ps.length cap,i64 f] w fun e w'=>e = .returned (.tuple #[])/\RelAt w' b o T A Z (zn6 f ps r)/\w.grownBy w' (some b):=by
 refine zD 35 [.pointer (some ⟨b,o,none⟩),.slice q ps.length cap,i64 f] Tryz.func130 ?_;have ac:=hlt hr.cells;refine⟨Nat×(Nat->Nat),fun s=>⟨[(0,.pointer (some ⟨b,o,none⟩)),(1,.slice q ps.length cap),(2,i64 f),(8,.slice q ps.length cap),(9,i64 ps.length),(10,i64 (s.1:Nat))],[]⟩,
  fun s X=>s.1<=ps.length/\zK s.2/\zgu f (ps.drop s.1) s.2=zgu f ps r.to/\RelAt X b o T A Z ⟨r.n,s.2⟩/\w.grownBy X (some b),fun s=>ps.length-s.1,(0,r.to),
  (cvE rfl rfl),⟨UZ _,hw,rfl,hr,qo _ _⟩,?_⟩
 rintro⟨k,g⟩ X ⟨hk,hg,h,hX,z⟩;dsimp only at hk hg h hX ⊢;have p:=z.size;refine biE (fun x=>?_) fun x=>?_
 ·have x:(k:Int)<(ps.length:Int):=dT x;have d:k<ps.length:=by omega
  obtain⟨c,l⟩:∃c,ps[k]=c:=⟨_,rfl⟩;obtain⟨p1,p2⟩:=hp c (by rw[<- l];exact gM d);rw[<- JD d,l] at h;have h:zgu f (ps.drop (k+1)) (upd g (f+c.1) (g (f+c.1)|||2^(f+c.2)))=zgu f ps r.to:=h;obtain⟨bp,op,rfl,m,ab⟩:=hl.at d;have aa:bp≠b:=hqb _ rfl;have t:zI X ⟨bp,op+k*2,none⟩ (prE.enc ps[k]):=jp (z.block bp m (by simpa using aa)) (ab k d);refine⟨k,rfl,d,prE.enc c,rfl,by rw[<- l];exact t,nL m p,?_⟩;refine zo (X:=X) (v := .agg (prE.enc c).toArray) k46 rfl rfl rfl fun Y u fY sY=>DrawE.ord [20] [0,1,2,3,4,5,6,7,8,9,10,11,12,13,14,15,16,17,18,19,20] (by kernel_rfl) ?_;have y:Y.heap[X.heap.size]?=some (.cells (prE.enc c).toArray 46 (0,0)):=fY;have j:=hX.same (u.block b (nL ac p));refine⟨0,rfl,by decide,?_⟩;refine⟨u8 (UInt8.ofNat c.1),zc (za (hdr y)) (i:=0*1) rfl,((c.1:Nat):Int),by rw[znI (by omega)];exact ze (by omega),((f+c.1:Nat):Int),(ze (by omega)).trans (by omega),f+c.1,rfl,by omega,?_⟩;refine⟨s64 (g (f+c.1)),(j.same (Y:=Y.drew) rfl).cell p1,1,rfl,by decide,?_⟩;refine⟨u8 (UInt8.ofNat c.2),zc (za (hdr y)) (i:=1*1) rfl,((c.2:Nat):Int),by rw[znI (by omega)];exact ze (by omega),((f+c.2:Nat):Int),(ze (by omega)).trans (by omega),by omega,_,zab (e:=f+c.2) (by omega),_,zau (hg _ p1) (qc (by omega)),f+c.1,rfl,by omega,?_⟩;refine zm k73 (j.same (Y:=Y.drew) rfl).cells (o:=o+1+(f+c.1)*1) (v:=s64 (g (f+c.1)|||2^(f+c.2))) rfl rfl (by rw[j.len];omega) rfl fun S fS gS sS=>?_;rw[j.set p1] at fS;exact nxI (by omega) ⟨(k+1,_),(cvE rfl rfl),⟨d,zhy hg (KX (hg _ p1) (qc (by omega))),h,⟨hr.at_,fS⟩,zd z (zd (zi u) (zd (zi (Gb _ Y).drew) gS))⟩,zdc (by omega)⟩
 ·have x:¬(k:Int)<(ps.length:Int):=dF x;obtain rfl:k=ps.length:=by omega
  rw[Qj] at h;have h:g=zgu f ps r.to:=h;subst h;exact⟨rfl,hX,z⟩
end
def zyO (pre:List Nat) (vs:List Value) (W:Wd):Prop:=∃(a i:Nat),pre.getLast?=some a/\vs=[i64 i,i64 a]
theorem zxw{bx:Nat}{l:List Nat}{q:OA}{c:Nat}{W0:Wd}(fx:W0.heap[bx]?=some (.cells #[.slice q l.length c] 89 (0,0)))(hl:SlR zF W0 q l)(hql:∀a,q=some a->a.block<W0.heap.size)(hn:l.length<=100000) :
  zkC PG 201 [At0 bx] l.reverse W0 (fun k=>k=bx\/∃a,q=some a/\k=a.block) (fun _=>False) zyO:=by
 intro yl F0 J Jx W ai x u hJ ah hy h0;have f:=(x bx (.inl (.inl rfl))).trans fx;have ac:SlR zF W q l:=jr hl fun a ha=>x _ (.inl (.inr ⟨a,ha,rfl⟩));have af:=hlt f;refine zD 19 [.func (.yield yl) #[] #[],At0 bx] Tryz.func201 ?_;refine⟨_,zc (za f) (i:=0) rfl,((l.length:Nat):Int)-1,ze (by omega),?_⟩;refine⟨Nat×(Nat->Prop),fun s=>⟨[(0,.func (.yield yl) #[] #[]),(1,At0 bx),(3,i64 (((l.length:Nat):Int)-1-(s.1:Nat)))],[]⟩,
  fun s V=>s.1<=l.length/\J (l.reverse.take s.1) s.2 V/\W.heap.size<=V.heap.size/\V.heap[bx]?=some (.cells #[.slice q l.length c] 89 (0,0))/\¬s.2 bx/\RowF zF W.heap.size s.2 V q l,fun s=>l.length-s.1,(0,F0),
  ⟨.cons rfl (.cons rfl (.cons (by show _=some (i64 (((l.length:Nat):Int)-1-((0:Nat):Int)));rw[Int.ofNat_zero,Int.sub_zero];rfl) .nil)),rfl⟩,⟨UZ _,h0,UW _,f,u _ (.inl rfl),⟨ac,fun a ha=>⟨by have:=hql a ha;omega,u _ (.inr ⟨a,ha,rfl⟩)⟩⟩⟩,?_⟩
 rintro⟨t,F⟩ V ⟨ht,e,r,b,m,g⟩;dsimp only at ht e m g ⊢;refine biE (fun w=>?_) fun w=>?_
 ·have w:(0:Int)<=((l.length:Nat):Int)-1-(t:Nat):=dT w;obtain⟨i,ag⟩:∃i,i+t+1=l.length:=⟨l.length-1-t,by omega⟩;have ab:((l.length:Nat):Int)-1-(t:Nat)=(i:Nat):=by omega
  rw[ab];have d:i<l.length:=by omega
  have p:l.reverse[t]?=some l[i]:=by
   rw[JJ (by omega),show l.length-1-t=i by omega,gE d]
  have z:t<l.reverse.length:=by rw[Kk];omega
  have ae:l.reverse[t]=l[i]:=by rw[gE z] at p;exact Uc p
  have n:l.reverse.take (t+1)=l.reverse.take t++[l[i]]:=by rw[tsg z,ae]
  refine⟨_,zc (za b) (i:=0) rfl,?_⟩;obtain⟨bq,oq,aa,aj,y⟩:=g.row.at d;subst aa;refine⟨i,rfl,d,i64 l[i],zc (y i d) (i:=0) rfl,YieldR.mono (hy _ l[i] [i64 (i:Nat),i64 l[i]] F V e ⟨l[i],i,by simp,rfl⟩ (by rw[<- n];exact List.take_prefix _ _)) ?_⟩;rintro v Y (⟨rfl,F',j,kY⟩ | ⟨rfl,F',j⟩)
  ·refine brF ?_;have o:¬F' bx:=fun h=>by
    rcases kY.fp bx h with h | h
    ·exact m h
    ·have:=hlt b;omega
   exact⟨((l.length:Nat):Int)-1-((t+1:Nat):Int),(ze (by omega)).trans (by omega),(t+1,F'),(cvE rfl rfl),⟨by omega,by rw[n];exact j,UL r kY.size,(kY.same bx (hlt b) m).trans b,o,g.keep r kY (fun _ _ h=>h)⟩,zdc (by omega)⟩
  ·exact brT ⟨⟨_,rfl⟩,.inr ⟨_,F',by rw[<- n];exact List.take_prefix _ _,j⟩⟩
 ·have w:¬(0:Int)<=((l.length:Nat):Int)-1-(t:Nat):=dF w;have ad:t=l.length:=by omega
  subst ad;rw[JE (by rw[Kk];exact UW _)] at e;exact⟨⟨_,rfl⟩,.inl ⟨F,e⟩⟩
theorem zv1{q:OA}{n c:Nat}{w:Wd}:Calls PG 134 #[.slice q n c] w fun e w'=>e = .returned (.func (.func 201) #[] #[At0 w.heap.size])/\w'.heap[w.heap.size]?=some (.cells #[.slice q n c] 89 (0,0))/\w'.heap.size=w.heap.size+1/\Bw w w':=by
 refine zD 4 [.slice q n c] Tryz.func134 ?_;exact⟨rfl,zt w _,wz _ _,(zba w _)⟩
theorem zsI{q:OA}{n c:Nat}{w:Wd}:Calls PG 65 #[.slice q n c] w fun e w'=>e = .returned (.func (.func 127) #[] #[At0 w.heap.size])/\w'.heap[w.heap.size]?=some (.cells #[.slice q n c] 89 (0,0))/\w'.heap.size=w.heap.size+1/\Bw w w':=by
 refine zD 4 [.slice q n c] Tryz.func65 ?_;exact⟨rfl,zt w _,wz _ _,(zba w _)⟩
def zhp (p:(Nat->Nat)×Nat) (a:Nat):(Nat->Nat)×Nat:=(upd p.1 a p.2,p.2|||2^a)
theorem ze7:∀(l:List Nat) (f:Nat->Nat) (b:Nat),zeT l f b=(l.foldl zhp (f,b)).1
 | [],_,_=>rfl
 | a::l,f,b=>ze7 l (upd f a b) (b|||2^a)
theorem zlh:∀{l:List Nat} {f:Nat->Nat} {b:Nat},zK f->b<2^64->(∀a∈l,a<48)->zK (l.foldl zhp (f,b)).1/\(l.foldl zhp (f,b)).2<2^64
 | [],_,_,h,hb,_=>⟨h,hb⟩
 | a::l,f,b,h,hb,hl=>zlh (l:=l) (zhy h hb) (KX hb (qc (by have:=hl a KA;omega))) fun x d=>hl x (JV _ d)
theorem zj8{l:List Nat}{r:RelD}(h:zK r.to)(hl:∀a∈l,a<48):zK (zaj l r).to:=by
 show zK (zeT l.reverse r.to 0);rw[ze7];exact(zlh h (by decide) fun a d=>hl a (by simpa using d)).1
section
variable{b o:Nat}{T:TypeId}{A Z:List Value}{r:RelD}{w:Wd}{q:OA}{c:Nat}{l:List Nat}
theorem zsV(hr:RelAt w b o T A Z r)(hw:zK r.to)(hl:SlR zF w q l)(hql:∀a,q=some a->a.block<w.heap.size/\a.block≠b)(hn:l.length<=100000)(h48:∀a∈l,a<48) :
  Calls PG 70 #[.pointer (some ⟨b,o,none⟩),.slice q l.length c] w fun e w'=>e = .returned (.tuple #[])/\RelAt w' b o T A Z (zaj l r)/\w.grownBy w' (some b):=by
 refine qA 21 [.pointer (some ⟨b,o,none⟩),.slice q l.length c] (.s .p (.c .p .p)) Tryz.func70 ?_;obtain⟨L,hL⟩:=nm (w.heap.size);refine⟨Unit,fun _=>⟨[(1,.slice q l.length c),(2,At0 L),(4,At0 (L+1))],[]⟩,fun _ X=>X.heap[L]?=some (.cells #[.pointer (some ⟨b,o,none⟩)] 129 (0,0))/\X.heap[L+1]?=some (.cells #[s64 0] 73 (0,0))/\X.heap.size=L+2/\Bw w X,?_,?_⟩
 ·have s1:=wz w (.cells #[.pointer (some ⟨b,o,none⟩)] 129 (0,0));have z:=zt (w.alloc (.cells #[.pointer (some ⟨b,o,none⟩)] 129 (0,0))) (.cells #[s64 0] 73 (0,0));have s2:=wz (w.alloc (.cells #[.pointer (some ⟨b,o,none⟩)] 129 (0,0))) (.cells #[s64 0] 73 (0,0));rw[s1] at z s2;exact⟨(),⟨.cons rfl (.cons (by rw[hL];rfl) (.cons (by rw[hL,<- s1];rfl) .nil)),rfl⟩,by rw[hL];exact qO _ (zt w _),by rw[hL];exact z,by rw[hL];exact s2,((zba w _)).alloc (by simp) _⟩
 rintro _ X ⟨f0,f1,sX,ai⟩;have aj:=hlt hr.cells;refine cmo zv1 ?_;rintro e W ⟨rfl,fx,sW,ac⟩;have u:=zst ai ac;have hI:=zxw fx (hl.below u) (fun a ha=>by have:=(hql a ha).1;omega) hn;have f0:=zb ac f0;have f1:=zb ac f1;refine zdW (zgn _) rfl (lb := #[At0 X.heap.size]) rfl rfl hI (UW _) (fun k hk=>⟨?_,rfl⟩) (fun d vs W ⟨a,i,_,h⟩=>by rw[h];rfl) (by decide)
  (fun k=>k=b\/k=L+1) (fun d F Y=>F=(fun k=>k=b\/k=L+1)/\W.heap.size<=Y.heap.size/\RelAt Y b o T A Z ⟨r.n,(d.foldl zhp (r.to,0)).1⟩/\Y.heap[L+1]?=some (.cells [s64 (d.foldl zhp (r.to,0)).2].toArray 73 (0,0))/\Y.heap[L]?=some (.cells #[.pointer (some ⟨b,o,none⟩)] 129 (0,0))/\w.grownBy Y (some b)) (fun _ _ _ _=>False) (fun k hk=>?_)
  (joG (F:=fun k=>k=b\/k=L+1) (J:=fun(d:List Nat) Y=>W.heap.size<=Y.heap.size/\RelAt Y b o T A Z ⟨r.n,(d.foldl zhp (r.to,0)).1⟩/\Y.heap[L+1]?=some (.cells [s64 (d.foldl zhp (r.to,0)).2].toArray 73 (0,0))/\Y.heap[L]?=some (.cells #[.pointer (some ⟨b,o,none⟩)] 129 (0,0))/\w.grownBy Y (some b))
   (fun k h=>by omega) (fun s A h=>h.1) (fun d A B ⟨h1,z,h3,h4,m⟩ hb=>⟨UL h1 hb.size,z.same (hb.block _ (by omega)),jA hb (by omega) h3,jA hb (by omega) h4,jD m (hb.mono u.size)⟩))
  (fun ex=>⟨fun _ _ _ _ h=>h.elim,fun _ _ _ _ h=>h.elim⟩) ⟨rfl,UW _,hr.same (u.block _ aj),f1,f0,zi u⟩ ?_ ?_ ?_
 ·rcases hk with(rfl | ⟨a,ha,rfl⟩) | h
  ·omega
  ·have:=(hql a ha).1;have:=u.size;omega
  ·exact h.elim
 ·rcases hk with rfl | ⟨a,ha,rfl⟩
  ·omega
  ·have:=hql a ha;omega
 ·rintro yl d x vs F Y an y hJ ⟨a,i,ad,rfl⟩ am ap;have ag:x=a:=by simpa using ad
  subst ag;refine⟨rfl,F,KeepsG.refl _ _,hJ,?_⟩;rintro O Y2 al ⟨rfl,h1,z,h3,h4,m⟩;obtain⟨g1,g2⟩:=zlh (l:=d) (f:=r.to) (b:=0) hw (by decide) (fun a ha=>h48 a (by have:=y.subset (JU _ ha);simpa using this));have ab:x<48:=h48 x (by have:=y.subset (JM _ (KB.2 rfl));simpa using this);have t:(d++[x]).foldl zhp (r.to,0)=zhp (d.foldl zhp (r.to,0)) x:=by rw[KS];rfl
  obtain⟨P,hP⟩:=nm (d.foldl zhp (r.to,0));rw[<- hP] at z h3 g1 g2 t;refine DrawE.ord [6] [0,1,2,3,4,5,6] (by kernel_rfl) ⟨_,zc (za (hdr h4)) (i:=0) rfl,_,zc (za (hdr h3)) (i:=0) rfl,x,rfl,ab,zm k73 (z.same (Y:=Y2.drew) rfl).cells (o:=o+1+x*1) (v:=s64 P.2) rfl rfl (by rw[z.len];omega) rfl fun S fS gS sS=>?_⟩;rw[z.set ab] at fS;have g:Y2.grownBy S (some b):=zd (zi (Gb _ Y2).drew) gS;have af:=(g.block (L+1) (hlt h3) (by simp;omega)).trans h3;refine DrawE.ord [4] [0,1,2,3,4] (by kernel_rfl) ⟨_,zc (za (hdr af)) (i:=0) rfl,by omega,_,zab (e:=x) (by omega),_,zau g2 (qc (by omega)),zm k73 (hdr af) (o:=0) (v:=s64 (P.2|||2^x)) rfl rfl (by show 0<1;decide) rfl fun V fV gV sV=>?_⟩;have j:S.grownBy V (some (L+1)):=zd (zi (Gb _ S).drew) gV;have ao:L=w.heap.size:=hL;refine⟨fun k=>k=b\/k=L+1,⟨rfl,?_,⟨hr.at_,?_⟩,by rw[t];exact fV,?_,?_⟩,(KeepsG.grown g (.inl rfl)).trans (KeepsG.grown j (.inr rfl))⟩
  ·have:=g.size;have:=j.size;omega
  ·rw[t];exact(j.block b (hlt fS) (by simp;omega)).trans fS
  ·exact(j.block L (nL (hlt h4) g.size) (by simp)).trans ((g.block L (hlt h4) (by simp;omega)).trans h4)
  ·exact⟨j.os.trans (g.os.trans m.os),j.tape.trans (g.tape.trans m.tape),j.output.trans (g.output.trans m.output),by have:=g.size;have:=j.size;have:=m.size;omega,fun k hk aa=>(j.block k (by have:=g.size;have:=m.size;omega) (by simp;omega)).trans ((g.block k (by have:=m.size;omega) aa).trans (m.block k hk aa))⟩
 ·rintro D F Y hD ak ⟨rfl,h1,z,h3,h4,m⟩ ae;refine⟨_,rfl,ae,?_⟩;have ah:b≠D:=by have:=u.size;omega
  refine⟨rfl,⟨hr.at_,?_⟩,?_⟩
  ·rw[show zaj l r=⟨r.n,(l.reverse.foldl zhp (r.to,0)).1⟩ by unfold zaj;rw[ze7]];exact(zj ah).trans z.cells
  ·exact⟨m.os,m.tape,m.output,by have:=m.size;simpa [World.putObj] using this,fun k hk aa=>(zj (by have:=u.size;omega)).trans (m.block k hk aa)⟩
 ·rintro D ex d F Y hD ak y h;exact h.elim
end
theorem zk6{P:Program}{iT:TI}{T B g cap i v:Nat}{l:List Nat}{w:Wd}(hT:TIok P T iT)(hs:iT.size=1)(h:OwnS zF T B w (some ⟨g,0,none⟩) cap l)(hi:i<l.length){K:Wd->Prop}
  (k:∀w',OwnS zF T B w' (some ⟨g,0,none⟩) cap (l.set i v)->w.grownBy w' (some g)->K w'):SatR ((storeVar T ⟨g,0+i*1,none⟩ (i64 v)).run P w) fun _ w'=>K w':=by
 rcases h.inv with⟨h,_⟩ | ⟨x,a,f,n,p,m,s,b,d⟩
 ·cases h
 ·simp only[KY,Ur,Gh] at f;subst f;have e:a=a.toList.toArray:=rfl;have t:a.toList.length=cap:=by
   have:a.toList.length=a.size:=rfl;rw[this,b];exact UX _
  refine zm hT (cs:=a.toList) (by rw[<- e];exact p) (o:=0+i*1) (v:=i64 v) rfl hs (by omega) rfl fun w' j r u=>k w' ?_ r;unfold OwnS World.ownsRow;have d:a.toList.take (l.length*1)=l.flatMap zF.enc:=d;refine⟨by rw[zZ],.inr ⟨g,cap,_,rfl,n,j,by rw[QL];exact m,s,?_,?_⟩⟩
  ·show(a.toList.set (0+i*1) (i64 v)).length=_;rw[QL];exact b
  ·show(a.toList.set (0+i*1) (i64 v)).take ((l.set i v).length*1)=_;rw[UX,UQ,UX,QL,List.take_set,<- UX l.length,d,zfJ,zfJ];unfold zkZ;rw[UH]
theorem zvo{before:Nat->Nat}:∀(m left:Nat) (l:List Nat),∀x∈zaK before m left l,∀a∈x,a∈l\/a∈els left:=by
 intro m
 induction m with
 | zero =>
  intro left l x d a e;unfold zaK at d
  split at d
  ·rw[KB.1 d] at e;exact .inl e
  ·cases d
 | succ m ih =>
  intro left l x d a e;unfold zaK at d
  split at d
  ·rw[KB.1 d] at e;exact .inl e
  ·obtain⟨b,g,d⟩:=List.mem_flatMap.1 d
   split at d
   ·rcases ih _ _ x d a e with h | h
    ·rcases QN.1 h with h | h
     ·exact .inl h
     ·rw[KB.1 h];exact .inr g
    ·refine .inr ?_;unfold els at h ⊢;rw[QO] at h ⊢;refine⟨h.1,?_⟩;have f:=h.2;unfold jU at f;rw[QY,bAT] at f;exact f.1
   ·cases d
theorem zuR{r:RelD}{n:Nat}(hr:r.n=n)(hn:n<=64){x:List Nat}(h:x∈zbW r){a:Nat}(ha:a∈x):a<n:=by
 unfold zbW at h
 split at h
 ·rcases zvo _ _ _ x h a ha with h | h
  ·cases h
  ·rw[za8,hr,zeH hn] at h;exact Ul.1 h
 ·cases h
abbrev crs (n:Nat):RelD:=zjb n 1 (jU (zal n) 1)
theorem ztA:∀n,n<=48->okR (crs n)=true:=by
 intro n a;have h:(List.range 49).all (fun n=>okR (crs n))=true:=by kernel_rfl
 rw[Qg] at h;exact h n (Ul.2 (by omega))
theorem zeM(n:Int):zal n<2^64:=za7 n
theorem zpZ(n:Nat):zK (crs n).to:=fun i _=>by
 show(if i<n then(if Nat.testBit 1 i then jU (zal n) 1&&&zal n else 0) else 0)<2^64
 split
 ·split
  ·exact KF Qu (zeM n)
  ·decide
 ·decide
def zck (ws:List Nat) (o:List Nat):List Nat:=o.map fun k=>ws.getD k 0
theorem zuJ{ws o:List Nat}{i:Nat}(hi:i<o.length)(h:i<(zck ws (o.take i)++o.drop i).length):(zck ws (o.take i)++o.drop i)[i]=o[i]:=by
 have b:(zck ws (o.take i)).length=i:=by unfold zck;rw[QJ,Qr,QW (by omega)]
 have a:(zck ws (o.take i)++o.drop i)[i]?=o[i]?:=by
  rw[Jm (by omega),b,UN,Kx,UK]
 rw[gE h,gE hi] at a;exact Uc a
theorem zsn{ws o:List Nat}{i:Nat}(hi:i<o.length)(ho:o[i]<ws.length):(zck ws (o.take i)++o.drop i).set i ws[o[i]]=zck ws (o.take (i+1))++o.drop (i+1):=by
 have a:(zck ws (o.take i)).length=i:=by unfold zck;rw[QJ,Qr,QW (by omega)]
 rw[JN _ _ (by omega),a,UN,<- JD hi,List.set_cons_zero,tsg hi];unfold zck;rw[QM,KN,Uz,UG,gDe,gE ho];rfl
section
variable{q:OA}{c:Nat}{ws:List Nat}{w:Wd}
theorem zsF(hl:SlR zF w q ws)(hn:ws.length<=48)(hT:Tz64M w) :
  Calls PG 68 #[.slice q ws.length c] w fun e w'=>(∃(xs:List (List Nat×OA×Nat)) (p:OA) (c':Nat),e = .returned (.slice p xs.length c')/\xs.map (·.1)=zO ws/\OwnS jt 89 w.heap.size w' p c' xs/\∀x∈xs,OwnS zF 3 w.heap.size w' x.2.1 x.2.2 x.1)/\Bw w w':=by
 refine qA 44 [.slice q ws.length c] (.s .p (.s .p (.c .p .p))) Tryz.func68 ?_;obtain⟨B,hB⟩:=nm (w.heap.size);refine⟨List (List Nat×OA×Nat)×OA×Nat,fun s=>⟨[(0,.slice q ws.length c),(4,.slice s.2.1 s.1.length s.2.2)],[]⟩,fun s X=>(zO ws=(s.1.map (·.1)).map (zck ws)/\AscB s.1/\s.1.length<=10000/\∀x∈s.1,x.1.length<=64/\∀a∈x.1,a<ws.length)/\OwnS jt 89 B X s.2.1 s.2.2 s.1/\(∀x∈s.1,OwnS zF 3 B X x.2.1 x.2.2 x.1)/\Bw w X,?_,?_⟩
 ·refine cmo zkE ?_;rintro e _ ⟨rfl,rfl⟩;refine⟨_,zc0 (za7 _) (by decide:1<2^64),cmo (zwd (n:=ws.length) (a:=1) (b:=je (zaT ws.length) 1) hn (by decide) (zay (za7 _))) ?_⟩;rintro e X ⟨rfl,f⟩;refine cmo (zt8 (r:=crs ws.length) (m:=10000) (zpZ _) (hT.below f) (UW _) (ztA _ hn)) ?_;rintro e Y ⟨⟨hm,xs,p,c',rfl,ai,d,ho,u⟩ | ⟨hm,rfl⟩,ao⟩
  ·refine⟨(xs,p,c'),(cvE rfl rfl),⟨?_,d,?_,fun x u=>?_⟩,ho.lower (by rw[hB];exact f.size),fun x h=>(u x h).lower (by rw[hB];exact f.size),(zst f ao)⟩
   ·show zO ws=(xs.map (·.1)).map (zck ws);rw[ai];unfold zO;exact Gn hm
   ·show xs.length<=10000;rw[<- ai,QJ] at hm;exact hm
   ·have ah:x.1∈zbW (crs ws.length):=(by rw[<- ai];exact UI.2 ⟨x,u,rfl⟩);exact⟨zpt ah,fun a ha=>zuR rfl (by omega) ah ha⟩
  ·refine⟨([],none,0),(cvE rfl rfl),⟨?_,List.Pairwise.nil,UZ _,fun x u=>(by cases u)⟩,OwnS.nil,fun x u=>(by cases u),(zst f ao)⟩;show zO ws=[];unfold zO;exact Gm (by show ¬(zbW (crs ws.length)).length<=10000;omega)
 rintro⟨xs,p,c'⟩ X ⟨⟨am,d,a3,aq⟩,ho,u,f⟩;dsimp only at am d a3 aq ho u ⊢;have ak:=f.size;refine⟨Nat,fun k=>⟨[(0,.slice q ws.length c),(4,.slice p xs.length c'),(21,.slice p xs.length c'),(22,i64 xs.length),(23,i64 (k:Nat))],[]⟩,
  fun k Z=>k<=xs.length/\OwnS jt 89 B Z p c' xs/\(∀x∈xs.take k,OwnS zF 3 B Z x.2.1 x.2.2 (zck ws x.1))/\(∀x∈xs.drop k,OwnS zF 3 B Z x.2.1 x.2.2 x.1)/\Bw w Z,fun k=>xs.length-k,0,
  (cvE rfl rfl),⟨UZ _,ho,fun x h=>(by rw[Um] at h;cases h),fun x h=>u x h,f⟩,?_⟩
 clear ho u f ak;rintro k Z ⟨hk,ho,al,hdr,ad⟩;have ak:=ad.size;refine biE (fun hc=>?_) fun hc=>?_
 ·have hc:(k:Int)<(xs.length:Int):=dT hc;have z:k<xs.length:=by omega
  obtain⟨x,ab⟩:∃x,xs[k]=x:=⟨_,rfl⟩;have a8:x∈xs:=by rw[<- ab];exact gM z
  obtain⟨bb,au⟩:=aq x a8;have ag:xs=xs.take k++x::xs.drop (k+1):=by rw[<- ab,JD,JO]
  have aa:xs.drop k=x::xs.drop (k+1):=by rw[<- ab,JD]
  have aj:OwnS zF 3 B Z x.2.1 x.2.2 x.1:=hdr x (by rw[aa];simp);obtain⟨bp,op,az,be,a0⟩:=ho.row.at z;subst az;refine⟨k,rfl,z,.slice x.2.1 x.1.length x.2.2,by rw[<- ab];exact zc (a0 k z) (i:=0) rfl,?_⟩;refine⟨Nat,fun i=>⟨[(0,.slice q ws.length c),(4,.slice (some ⟨bp,op,none⟩) xs.length c'),(7,.slice x.2.1 x.1.length x.2.2),(21,.slice (some ⟨bp,op,none⟩) xs.length c'),(22,i64 xs.length),(23,i64 (k:Nat)),(27,.slice x.2.1 x.1.length x.2.2),(28,i64 x.1.length),(29,i64 (i:Nat))],[]⟩,
   fun i V=>i<=x.1.length/\OwnS zF 3 B V x.2.1 x.2.2 (zck ws (x.1.take i)++x.1.drop i)/\Z.grownBy V (x.2.1.map Addr.block),fun i=>x.1.length-i,0,
   (cvE rfl rfl),⟨UZ _,aj,qo _ _⟩,?_⟩
  rintro i V ⟨hi,o,gV⟩;refine biE (fun hc=>?_) fun hc=>?_
  ·have hc:(i:Int)<(x.1.length:Int):=dT hc;have t:i<x.1.length:=by omega
   have bc:(zck ws (x.1.take i)++x.1.drop i).length=x.1.length:=by
    unfold zck;simp;omega
   have a5:(zck ws (x.1.take i)++x.1.drop i)[i]'(by omega)=x.1[i]:=by
    exact zuJ t (by omega)
   obtain⟨b',o',af,bf,an⟩:=o.row.at (i:=i) (by omega);have ae:=au x.1[i] (gM t);obtain⟨bw,ow,a6,ax,ap⟩:=hl.at ae;subst a6;have ay:∃g,x.2.1=some ⟨g,0,none⟩:=by
    rcases o.inv with⟨h,_⟩ | ⟨g,bd,h,_⟩
    ·rw[h] at af;cases af
    ·exact⟨g,h⟩
   obtain⟨g,hg⟩:=ay;have aw:b'=g/\o'=0:=by rw[hg] at af;simpa using af.symm
   obtain⟨rfl,rfl⟩:=aw;rw[hg] at o gV ⊢;have av:=(zz o rfl).1;refine⟨i,rfl,t,i64 x.1[i],by have:=zc (an i (by omega)) (i:=0) (v:=i64 x.1[i]) (by rw[a5];rfl);exact this,x.1[i],rfl,ae,?_⟩;have a1:V.heap[bw]?=w.heap[bw]?:=(gV.block bw (by omega) (by have:B<=b':=av;simp;omega)).trans (ad.block bw ax);refine⟨i64 ws[x.1[i]],zc (jp a1 (ap _ ae)) (i:=0) rfl,i,rfl,t,zk6 (i:=i) (v:=ws[x.1[i]]) k3 rfl o (by omega) fun V' ar a7=>nxI (by omega) ⟨i+1,(cvE rfl rfl),⟨t,?_,zd gV a7⟩,zdc (by omega)⟩⟩;have e:(zck ws (x.1.take i)++x.1.drop i).set i ws[x.1[i]]=zck ws (x.1.take (i+1))++x.1.drop (i+1):=zsn t ae;rw[e] at ar;exact ar
  ·have hc:¬(i:Int)<(x.1.length:Int):=dF hc;obtain rfl:i=x.1.length:=by omega
   rw[Qt,Qj,QG] at o;have ac:∀y:List Nat×OA×Nat,∀l',OwnS zF 3 B Z y.2.1 y.2.2 l'->(∀a b,x.2.1=some a->y.2.1=some b->a.block≠b.block)->OwnS zF 3 B V y.2.1 y.2.2 l':=fun y l' l a4=>l.same fun b hb=>gV.block _ (zz l hb).2.1 (by
    intro e
    cases hx1:x.2.1 with
    | none=>rw [hx1] at e;cases e
    | some a =>
     rw[hx1] at e;simp only[Ub,KY] at e;exact a4 a b hx1 hb e.symm)
   unfold AscB at d;rw[ag,JZ,List.pairwise_cons] at d;obtain⟨_,⟨ba,_⟩,a9⟩:=d;refine nxI (by omega) ⟨k+1,(cvE rfl rfl),⟨z,?_,fun y l=>?_,fun y l=>?_,?_⟩,zdc (by omega)⟩
   ·refine ho.same fun a ha=>gV.block _ (zz ho ha).2.1 fun e=>?_
    cases hx1:x.2.1 with
    | none=>rw [hx1] at e;cases e
    | some a2 =>
     rw[hx1] at e;simp only[Ub,KY] at e;obtain⟨_,_,c1,h1⟩:=zz ho ha;obtain⟨_,_,c2,h2⟩:=zz aj hx1;rw[<- e,h1] at h2;simp at h2
   ·rw[tsg z,ab] at l;rcases QN.1 l with l | l
    ·exact ac y _ (al y l) fun a b ha hb e=>by
      have:=a9 y l x (by simp) b a hb ha;omega
    ·rw[KB.1 l];exact o
   ·exact ac y _ (hdr y (by rw[aa];exact JV _ l)) fun a b ha hb e=>by
     have:=ba y l a b ha hb;omega
   ·cases hx1:x.2.1 with
    | none =>
     rw[hx1] at gV;exact ad.trans ⟨gV.os,gV.tape,gV.output,gV.size,fun j hj=>gV.block j (by omega) (fun e=>by cases e)⟩
    | some a =>
     rw[hx1] at gV;exact ad.trans (zl gV ak (by have:=(zz aj hx1).1;omega))
 ·have hc:¬(k:Int)<(xs.length:Int):=dF hc;obtain rfl:k=xs.length:=by omega
  rw[Qt] at al;refine⟨⟨xs.map fun x=>(zck ws x.1,x.2),p,c',by rw[QJ];rfl,?_,?_,fun y l=>?_⟩,ad⟩
  ·rw[am,UF,UF];rfl
  ·rw[<- hB];have e1:(xs.map fun x=>(zck ws x.1,x.2)).flatMap jt.enc=xs.flatMap jt.enc:=by
    rw[Ql];congr 1;funext x;show[Value.slice x.2.1 (zck ws x.1).length x.2.2]=[Value.slice x.2.1 x.1.length x.2.2];unfold zck;rw[QJ]
   unfold OwnS at ho ⊢;rw[e1,QJ];exact ho
  ·obtain⟨x,u,rfl⟩:=UI.1 l;rw[<- hB];exact al x u
end
def exC (x:ExD) (q:OA) (c:Nat):List Value := .slice q x.ev.length c::(zf x.po++(zf x.rf++(zf x.co++(zf x.dt++(zf x.ct++(zf x.rm++(seg 32 (fun i=>u8 (x.regs i))++seg 6 (fun i=>u8 (x.mem i)))))))))
theorem zW(x:ExD)(q:OA)(c:Nat):(exC x q c).length=333:=by
 unfold exC;simp only[Qp,lap,zg,zB]
theorem zcI(x:ExD)(q:OA)(c:Nat):(exC x q c).all Value.oneCell'=true:=by
 unfold exC;rw[Ux,QF,QF,QF,QF,QF,QF,QF,zH,zH,zH,zH,zH,zH,zb7 fun _=>rfl,zb7 fun _=>rfl];rfl
section
variable(x:ExD)(q:OA)(c:Nat)(S:List Value)
theorem zpQ:∃A Z,A.length=1/\∀r,exC { x with po:=r } q c++S=A++(zf r++Z) :=
 ⟨.slice q x.ev.length c::[],(zf x.rf++(zf x.co++(zf x.dt++(zf x.ct++(zf x.rm++(seg 32 (fun i=>u8 (x.regs i))++(seg 6 (fun i=>u8 (x.mem i))++S))))))),by simp only[Qp,QK,lap,zg],fun r=>by simp only[exC,KN,Qi,QQ]⟩
theorem zwo:∃A Z,A.length=50/\∀r,exC { x with rf:=r } q c++S=A++(zf r++Z) :=
 ⟨.slice q x.ev.length c::zf x.po,(zf x.co++(zf x.dt++(zf x.ct++(zf x.rm++(seg 32 (fun i=>u8 (x.regs i))++(seg 6 (fun i=>u8 (x.mem i))++S)))))),by simp only[Qp,QK,lap,zg],fun r=>by simp only[exC,KN,Qi,QQ]⟩
theorem zwq:∃A Z,A.length=99/\∀r,exC { x with co:=r } q c++S=A++(zf r++Z) :=
 ⟨.slice q x.ev.length c::(zf x.po++zf x.rf),(zf x.dt++(zf x.ct++(zf x.rm++(seg 32 (fun i=>u8 (x.regs i))++(seg 6 (fun i=>u8 (x.mem i))++S))))),by simp only[Qp,QK,lap,zg],fun r=>by simp only[exC,KN,Qi,QQ]⟩
theorem zpR:∃A Z,A.length=148/\∀r,exC { x with dt:=r } q c++S=A++(zf r++Z) :=
 ⟨.slice q x.ev.length c::(zf x.po++(zf x.rf++zf x.co)),(zf x.ct++(zf x.rm++(seg 32 (fun i=>u8 (x.regs i))++(seg 6 (fun i=>u8 (x.mem i))++S)))),by simp only[Qp,QK,lap,zg],fun r=>by simp only[exC,KN,Qi,QQ]⟩
theorem zpS:∃A Z,A.length=197/\∀r,exC { x with ct:=r } q c++S=A++(zf r++Z) :=
 ⟨.slice q x.ev.length c::(zf x.po++(zf x.rf++(zf x.co++zf x.dt))),(zf x.rm++(seg 32 (fun i=>u8 (x.regs i))++(seg 6 (fun i=>u8 (x.mem i))++S))),by simp only[Qp,QK,lap,zg],fun r=>by simp only[exC,KN,Qi,QQ]⟩
theorem zpP:∃A Z,A.length=246/\∀r,exC { x with rm:=r } q c++S=A++(zf r++Z) :=
 ⟨.slice q x.ev.length c::(zf x.po++(zf x.rf++(zf x.co++(zf x.dt++zf x.ct)))),(seg 32 (fun i=>u8 (x.regs i))++(seg 6 (fun i=>u8 (x.mem i))++S)),by simp only[Qp,QK,lap,zg],fun r=>by simp only[exC,KN,Qi,QQ]⟩
theorem zvr:∃A Z,A.length=295/\∀f,exC { x with regs:=f } q c++S=A++(seg 32 (fun i=>u8 (f i))++Z) :=
 ⟨.slice q x.ev.length c::(zf x.po++(zf x.rf++(zf x.co++(zf x.dt++(zf x.ct++zf x.rm))))),(seg 6 (fun i=>u8 (x.mem i))++S),by simp only[Qp,lap,zg],fun f=>by simp only[exC,KN,Qi,QQ]⟩
theorem ztm:∃A Z,A.length=327/\∀f,exC { x with mem:=f } q c++S=A++(seg 6 (fun i=>u8 (f i))++Z) :=
 ⟨.slice q x.ev.length c::(zf x.po++(zf x.rf++(zf x.co++(zf x.dt++(zf x.ct++(zf x.rm++seg 32 (fun i=>u8 (x.regs i)))))))),S,by simp only[Qp,lap,zg,zB],fun f=>by simp only[exC,KN,Qi,QQ]⟩
theorem zwp(l:List Ev)(q':OA)(c':Nat):(exC x q c++S).set 0 (.slice q' l.length c')=exC { x with ev:=l } q' c'++S:=by
 unfold exC;rw[Qi,List.set_cons_zero,Qi]
theorem zxb:(exC x q c++S)[0]?=some (.slice q x.ev.length c):=rfl
end
theorem zhI{x:ExD}{q:OA}{c:Nat}{S:List Value}{i:Nat}{v:Value}(h:S[i]?=some v):(exC x q c++S)[333+i]?=some v:=by
 rw[jw (zW _ _ _)];exact h
theorem zlc{x:ExD}{q:OA}{c:Nat}{S:List Value}{i:Nat}{v:Value}:(exC x q c++S).set (333+i) v=exC x q c++S.set i v:=qT (zW _ _ _)
abbrev zbk:=List Nat×OA×Nat
abbrev slV (x:zbk):Value := .slice x.2.1 x.1.length x.2.2
def zeO (l:List zbk):List Value:=l.map slV
theorem zgE:∀l:List zbk,l.flatMap jt.enc=zeO l
 | []=>rfl
 | a::l=>by
  show slV a::l.flatMap jt.enc=slV a::zeO l;rw[zgE l]
abbrev RowLH (Z:Wd) (g:Nat) (l:List zbk):Prop:=Z.heap[g]?=some (.cells (zeO l).toArray 89 (0,0))
theorem RowLH.sl{Z:Wd}{g:Nat}{l:List zbk}(h:RowLH Z g l):SlR jt Z (some ⟨g,0,none⟩) l :=
 SlR.of_cells (hlt h) (by rw[zgE];exact za h)
theorem RowLH.own{Z:Wd}{g B:Nat}{l:List zbk}(h:RowLH Z g l)(hB:B<=g)(hm:l.length<=maxLen):OwnS jt 89 B Z (some ⟨g,0,none⟩) l.length l:=by
 unfold OwnS World.ownsRow;have a:(zeO l).length=l.length:=by unfold zeO;rw[QJ]
 refine⟨by rw[zZ],.inr ⟨g,l.length,(zeO l).toArray,rfl,hB,h,UW _,hm,?_,?_⟩⟩
 ·show(zeO l).length=l.length*1;rw[a,UX]
 ·show(zeO l).take (l.length*1)=_;rw[zgE,JE (by rw[a,UX];exact UW _)]
structure Rows (B:Nat) (Z:Wd) (W:List zbk):Prop where
 own:∀x∈W,OwnS zF 3 B Z x.2.1 x.2.2 x.1
 dis:∀(i j:Nat) (x y:zbk),W[i]?=some x->W[j]?=some y->i≠j->∀a b,x.2.1=some a->y.2.1=some b->a.block≠b.block
theorem Rows.same{B:Nat}{Z Y:Wd}{W:List zbk}(h:Rows B Z W)(hs:∀x∈W,∀a,x.2.1=some a->Y.heap[a.block]?=Z.heap[a.block]?):Rows B Y W :=
 ⟨fun x b=>(h.own x b).same (hs x b),h.dis⟩
theorem Rows.nils(B:Nat)(Z:Wd)(n:Nat):Rows B Z (List.replicate n ([],none,0)):=by
 refine⟨fun x d=>?_,fun i j x y d f _ a b e _=>?_⟩
 ·rw[Jt d];exact OwnS.nil
 ·have:=JW d;rw[Jt this] at e
  cases e
theorem Rows.set{B:Nat}{Z Y:Wd}{W:List zbk}{i:Nat}{x y:zbk}(h:Rows B Z W)(hi:W[i]?=some x)(ho:OwnS zF 3 B Y y.2.1 y.2.2 y.1)(hg:Z.grownBy Y (x.2.1.map Addr.block))(hat:∀a,y.2.1=some a->x.2.1=some a\/Z.heap.size<=a.block):Rows B Y (W.set i y):=by
 obtain⟨p,aa⟩:=Jr.1 hi;have ne:∀(j:Nat) (z:zbk),W[j]?=some z->i≠j->∀b,z.2.1=some b->Y.heap[b.block]?=Z.heap[b.block]?:=fun j z d l b m=>by
  refine hg.block _ (zz (h.own z (JW d)) m).2.1 fun e=>?_
  cases hx1:x.2.1 with
  | none=>rw [hx1] at e;cases e
  | some a =>
   rw[hx1] at e;simp only[Ub,KY] at e;exact h.dis i j x z hi d l a b hx1 m e.symm
 have inv:∀(j:Nat) (z:zbk),(W.set i y)[j]?=some z->(i=j/\z=y)\/(i≠j/\W[j]?=some z):=fun j z d=>by
  by_cases e:i=j
  ·subst e;rw[JC p] at d;exact .inl ⟨rfl,(Uc d).symm⟩
  ·rw[JT e] at d;exact .inr ⟨e,d⟩
 refine⟨fun z w=>?_,fun j k u v hu s r a b o m=>?_⟩
 ·obtain⟨j,d⟩:=List.mem_iff_getElem?.1 w;rcases inv j z d with⟨_,rfl⟩ | ⟨l,d⟩
  ·exact ho
  ·exact(h.own z (JW d)).same (ne j z d l)
 ·rcases inv j u hu with⟨e1,rfl⟩ | ⟨t,g⟩ <;> rcases inv k v s with⟨e2,rfl⟩ | ⟨n2,f⟩
  ·omega
  ·rcases hat a o with n | n
   ·exact h.dis i k x v hi f n2 a b n m
   ·have:=(zz (h.own v (JW f)) m).2.1;omega
  ·rcases hat b m with n | n
   ·exact h.dis j i u x g hi (fun e=>t e.symm) a b o n
   ·have:=(zz (h.own u (JW g)) o).2.1;omega
  ·exact h.dis j k u v g f r a b o m
end Go.Proofs.YtakcdebpklffiaaGreatDoor
namespace Go.Vc
open Go.RowKit
def DrawA (S:Sig) (ops:Array Oper) (E:Env) (w:Wd) (K:Env->Wd->Prop) (QP:List PanicEntry->Wd->Prop):Prop :=
 ∃(X:List Nat) (T:OT),(znc (zdD S.τ X ops) ops ops.size (Array.replicate ops.size false) T&&ops.all (fun o=>j4 o.op))=true/\ziy S ops.toList X QP T E w.drew K
inductive Mn where
 | m (m:Mk)
 | s (a b:Mn)
 | c (a b:Mn)
 | d (a b:Mn)
 | t
 | i
section
variable{S:Sig}
def znb (rec_:Array Bool->OT->Bool) (ind:Nat->Nat->Bool) (ops:Array Oper) (listed:Array Bool) (T:OT):Bool :=
 !(Region.ready .any ops listed).isEmpty&&(Region.ready .any ops listed).all fun i =>
   (OT.firsts ind i T).any fun T'=>rec_ (listed.setIfInBounds i true) T'
def zhr (ind:Nat->Nat->Bool) (ops:Array Oper):Nat->Array Bool->OT->Bool
 | 0,listed,T=>(Region.ready .any ops listed).isEmpty&&(match T with | .nil=>true | _=>false)
 | m+1,listed,.op k T'=>(match (Region.ready .any ops listed).contains k&&zfR ind ops k listed with
  | true=>zhr ind ops m (listed.setIfInBounds k true) T'
  | false=>znb (zhr ind ops m) ind ops listed (.op k T'))
 | m+1,listed,.nil=>znb (zhr ind ops m) ind ops listed .nil
 | m+1,listed,.alt x y=>znb (zhr ind ops m) ind ops listed (.alt x y)
section
variable{ind:Nat->Nat->Bool}{ops:Array Oper}
theorem zbJ{rec_:Array Bool->OT->Bool}{L:Array Bool}{T:OT}(h:znb rec_ ind ops L T=true):(Region.ready .any ops L).isEmpty=false/\∀i∈Region.ready .any ops L,∃T',T'∈OT.firsts ind i T/\rec_ (L.setIfInBounds i true) T'=true:=by
 simp only[znb,bAT,KI,Qg,Qh] at h;exact⟨h.1,fun i a=>h.2 i a⟩
theorem zrm:∀(m:Nat) (L:Array Bool) (T:OT),zfp ops L->zhr ind ops (m+1) L T=true ->
  (Region.ready .any ops L).isEmpty=false/\∀i∈Region.ready .any ops L,∃T',T'∈OT.firsts ind i T/\zhr ind ops m (L.setIfInBounds i true) T'=true:=by
 intro m
 induction m with
 | zero =>
  intro L T f h
  cases T with
  | nil=>exact zbJ h
  | alt x y=>exact zbJ h
  | op k T' =>
   simp only[zhr] at h
   split at h
   ·rename_i a;simp only[bAT,JS,dE] at a;refine⟨Js.2 (KC a.1),fun i b=>?_⟩;by_cases e:i=k
    ·subst e;exact⟨T',by simp[OT.firsts],h⟩
    ·have:=zbD b e;simp only[bAT,Qo] at h;rw[h.1] at this;cases this
   ·exact zbJ h
 | succ m ih =>
  intro L T f h
  cases T with
  | nil=>exact zbJ h
  | alt x y=>exact zbJ h
  | op k T' =>
   unfold zhr at h
   split at h
   ·rename_i a;simp only[bAT,JS,dE] at a;refine⟨Js.2 (KC a.1),fun i b=>?_⟩;by_cases e:i=k
    ·subst e;exact⟨T',by simp[OT.firsts],h⟩
    ·obtain⟨T'',j,g⟩:=(ih _ T' (zdH f a.1) h).2 i (zbD b e);refine⟨.op k T'',?_,?_⟩
     ·have:¬k=i:=fun d=>e d.symm;rw[OT.firsts,Gm this,Gn (zmR f a.2 a.1 b e)];exact Km j
     ·have c:k∈Region.ready .any ops (L.setIfInBounds i true):=zbD a.1 (fun d=>e d.symm);have l:((Region.ready .any ops (L.setIfInBounds i true)).contains k&&zfR ind ops k (L.setIfInBounds i true))=true:=by
       simp only[bAT,JS,dE];exact⟨c,ziZ a.2⟩
      unfold zhr;rw[l];rw[zl1];exact g
   ·exact zbJ h
theorem zgR:∀(m:Nat) (L:Array Bool) (T:OT),zfp ops L->zhr ind ops m L T=true->znc ind ops m L T=true
 | 0,L,T,_,h=>h
 | m+1,L,T,hc,h=>by
  obtain⟨e,c⟩:=zrm m L T hc h;simp only[znc,bAT,KI,Qg,Qh];refine⟨e,fun i a=>?_⟩;obtain⟨T',d,b⟩:=c i a;exact⟨T',d,zgR m _ T' (zdH hc a) b⟩
end
theorem DrawA.treeR{S:Sig}{ops:Array Oper}{E:Env}{w:Wd}{K:Env->Wd->Prop}{QP:List PanicEntry->Wd->Prop}(X:List Nat)(T:OT)
  (h:(zhr (zdD S.τ X ops) ops ops.size (Array.replicate ops.size false) T&&ops.all (fun o=>j4 o.op))=true) (k:ziy S ops.toList X QP T E w.drew K):DrawA S ops E w K QP :=
 ⟨X,T,by
  simp only[bAT] at h ⊢;refine⟨zgR _ _ _ (fun j o b=>?_) h.1,h.2⟩;by_cases a:j<ops.size <;> simp[a] at b,k⟩
theorem DrawE.treeR{S:Sig}{ops:Array Oper}{E:Env}{w:Wd}{K:Env->Wd->Prop}{QP:List PanicEntry->Wd->Prop}(X:List Nat)(T:OT)
  (h:(zhr (zdD S.τ X ops) ops ops.size (Array.replicate ops.size false) T&&ops.all (fun o=>j4 o.op))=true) (k:ziy S ops.toList X QP T E w.drew K):DrawE S ops E w K QP :=
 .inr (.inr ⟨X,T,by
  simp only[bAT] at h ⊢;refine⟨zgR _ _ _ (fun j o b=>?_) h.1,h.2⟩;by_cases a:j<ops.size <;> simp[a] at b,k⟩)
end
end Go.Vc
namespace Go.Proofs.YtakcdebpklffiaaGreatDoor
open Go.Vc Go.RowKit Go.Sei
abbrev zbM (X:Wd) (b:Nat) (x:ExD) (q:OA) (c:Nat) (S:List Value):Prop:=X.heap[b]?=some (.cells (exC x q c++S).toArray 92 (0,0))
abbrev qg:Value := .slice none 0 0
theorem zdB{X:Wd}{b:Nat}{x:ExD}{q:OA}{c:Nat}{S:List Value}(h:zbM X b x q c S):X.cell? ⟨b,0+0,none⟩=some (.slice q x.ev.length c):=zc (za h) (zxb x q c S)
theorem zaJ{X:Wd}{b:Nat}{x:ExD}{q:OA}{c:Nat}{S:List Value}(h:zbM X b x q c S){i:Nat}{v:Value}(hi:S[i]?=some v):X.cell? ⟨b,333+i,none⟩=some v:=by
 have:=zc (za h) (zhI (x:=x) (q:=q) (c:=c) hi);rw[UQ] at this;exact this
theorem ztp{w Z:Wd}{q:OA}{ev:List Ev}{b:Nat}(hl:SlR evE w q ev)(hqb:∀a,q=some a->a.block≠b)(g:w.grownBy Z (some b)):SlR evE Z q ev:=by
 rcases hl with h | ⟨f,o,e,d,k⟩
 ·exact .inl h
 ·have:=hqb _ e;exact .inr ⟨f,o,e,nL d g.size,fun i j=>jp (g.block f d (by simpa using this)) (k i j)⟩
theorem za4(p:OA)(n c:Nat):(Value.slice p n c).ownBlock=p.map Addr.block:=by cases p <;> rfl
theorem ziu{α:Type}{E:Enc α}{T B cap:Nat}{w:Wd}{p:OA}{l:List α}(h:OwnS E T B w p cap l){k T':Nat}{cur:Array Value}{fr:Nat×Nat}(hk:w.heap[k]?=some (.cells cur T' fr))(hT:T'≠T):some k≠p.map Addr.block:=fun e=>by
 cases hp:p with
 | none=>rw [hp] at e;cases e
 | some a =>
  rw[hp] at e;simp only[Ub,KY] at e;obtain⟨_,_,f,d⟩:=zz h hp;rw[<- e,hk] at d;simp at d;exact hT d.2.1
theorem SatR.mono{α:Type}{r:Result α}{K K':α->Wd->Prop}(h:SatR r K)(k:∀v w,K v w->K' v w):SatR r K':=by
 obtain⟨v,a,e,h⟩:=h;exact⟨v,a,e,k v a h⟩
section
variable{α β:Type}{E:Enc α}{E':Enc β}{T T' B B' c c':Nat}{A C:Wd}{p q:OA}{l:List α}{l':List β}
theorem zdY(h:OwnS E T B A q c l)(g:A.grownBy C (p.map Addr.block))(hne:∀a b',p=some a->q=some b'->a.block≠b'.block):OwnS E T B C q c l :=
 h.same fun b' d=>g.block _ (zz h d).2.1 fun e=>by
  cases hp:p with
  | none=>rw [hp] at e;cases e
  | some a =>
   rw[hp] at e;simp only[Ub,KY] at e;exact hne a b' hp d e.symm
theorem zaI(h:OwnS E T B A q c l)(hp:OwnS E' T' B' A p c' l')(hT:T≠T')(g:A.grownBy C (p.map Addr.block)):OwnS E T B C q c l :=
 zdY h g fun a m j i e=>by
  obtain⟨_,_,k,f⟩:=zz h i;obtain⟨_,_,n,d⟩:=zz hp j;rw[e,f] at d;simp at d;exact hT d.2
theorem qN{b:Nat}{cur:Array Value}{fr:Nat×Nat}(h:OwnS E T B A q c l)(hb:A.heap[b]?=some (.cells cur T' fr))(hT:T≠T')(g:A.grownBy C (some b)):OwnS E T B C q c l :=
 h.same fun i a=>g.block _ (zz h a).2.1 fun e=>by
  obtain⟨_,_,f,d⟩:=zz h a;simp only[KY] at e;rw[e,hb] at d;simp at d;exact hT d.2.1.symm
theorem qK{b:Nat}{cur:Array Value}{fr:Nat×Nat}(hb:A.heap[b]?=some (.cells cur T' fr))(h:OwnS E T B A q c l)(hT:T'≠T)(g:A.grownBy C (q.map Addr.block)):C.heap[b]?=some (.cells cur T' fr) :=
 (g.block b (hlt hb) (ziu h hb hT)).trans hb
theorem jo{n:Nat}(hp:OwnS E T B A p c l)(hn:n<=A.heap.size)(hB:n<=B)(g:A.grownBy C (p.map Addr.block)):Below n A C:=by
 refine⟨g.os,g.tape,g.output,g.size,fun j d=>g.block j (by omega) fun e=>?_⟩
 cases h:p with
 | none=>rw [h] at e;cases e
 | some a =>
  rw[h] at e;simp only[Ub,KY] at e;have:=(zz hp h).1;omega
end
theorem zrE{B c k:Nat}{V1:Wd}{p:OA}{l:List Nat}{a:Addr}(ho:OwnS zF 3 B V1 p c l)(ha:zI V1 a ([k].flatMap zF.enc))(hB:B<=V1.heap.size)(hl:l.length<=100000){K:Value->Wd->Prop}
  (h:∀p' c' w',OwnS zF 3 B w' p' c' (l++[k])->V1.grownBy w' (Value.slice p l.length c).ownBlock->(∀a,p'=some a->p=some a\/a.block=V1.heap.size)->K (.slice p' (l++[k]).length c') w') :
  SatR ((Builtin.append_ #[89,89] 89 #[.slice p l.length c,.slice (some a) 1 1]).run PG V1) K :=
 jG (E:=zF) (T:=3) (B:=B) (l:=l) (news:=[k]) (cap:=c) (m:=1) Tryz.underlying89 k3 rfl rfl rfl ho rfl ha hB (by omega) (by show(l.length+1)*8<=_;omega) fun p' c' w' d e _ f=>h p' c' w' d e f
theorem zyN{B c:Nat}{V1:Wd}{p:OA}{l:List zbk}{y:zbk}{a:Addr}(ho:OwnS jt 89 B V1 p c l)(ha:zI V1 a ([y].flatMap jt.enc))(hB:B<=V1.heap.size)(hl:l.length<=100000){K:Value->Wd->Prop}
  (h:∀p' c' w',OwnS jt 89 B w' p' c' (l++[y])->V1.grownBy w' (Value.slice p l.length c).ownBlock->(∀a,p'=some a->p=some a\/a.block=V1.heap.size)->K (.slice p' (l++[y]).length c') w') :
  SatR ((Builtin.append_ #[90,90] 90 #[.slice p l.length c,.slice (some a) 1 1]).run PG V1) K :=
 jG (E:=jt) (T:=89) (B:=B) (l:=l) (news:=[y]) (cap:=c) (m:=1) Tryz.underlying90 k89 rfl rfl rfl ho rfl ha hB (by omega) (by show(l.length+1)*24<=_;omega) fun p' c' w' d e _ f=>h p' c' w' d e f
section
variable{b:Nat}{x:ExD}{q:OA}{c locs:Nat}{w:Wd}
theorem zrt(hm:zbM w b x q c [qg,qg,qg])(hl:SlR evE w q x.ev)(hqb:∀a,q=some a->a.block≠b)(hn:x.ev.length<=48)(hlo:locs<=100)(hv:∀e∈x.ev,e.k=1\/e.k=2->e.l.toNat<locs) :
  Calls PG 131 #[At0 b,i64 locs] w fun e w'=>e = .returned (.tuple #[])/\(∃(p1 p2 p3:OA) (c1 c2 c3:Nat) (xs ys:List zbk),
   zbM w' b x q c [.slice p1 (zat x locs).rs.length c1,.slice p2 xs.length c2,.slice p3 ys.length c3]/\OwnS zF 3 w.heap.size w' p1 c1 ((zat x locs).rs.map (·.1))/\xs.map (·.1)=(zat x locs).rs.map (·.2)/\OwnS jt 89 w.heap.size w' p2 c2 xs/\(∀y∈xs,OwnS zF 3 w.heap.size w' y.2.1 y.2.2 y.1) /\
   ys.map (·.1)=(zat x locs).wr/\OwnS jt 89 w.heap.size w' p3 c3 ys/\∀y∈ys,OwnS zF 3 w.heap.size w' y.2.1 y.2.2 y.1)/\w.grownBy w' (some b):=by
 refine qA 114 [At0 b,i64 locs] (.c .p (.c .p .p)) Tryz.func131 ?_;obtain⟨B,hB⟩:=nm (w.heap.size);have hbw:=hlt hm;obtain⟨W0,hW0⟩:∃W0:List zbk,W0=List.replicate locs ([],none,0):=⟨_,rfl⟩;have hW0l:W0.length=locs:=by rw[hW0,JL]
 refine⟨Unit,fun _=>⟨[(0,At0 b)],[]⟩,fun _ X=>zbM X b x q c [qg,qg,.slice (some ⟨B,0,none⟩) locs locs]/\RowLH X B W0/\w.grownBy X (some b)/\B<X.heap.size,?_,?_⟩
 ·refine zj6 Tryz.underlying90 k89 rfl rfl (by decide) locs (by show 24*_<=_;omega) (by omega) fun X fX hbX sX=>?_;have ez:∀n,zcO [Value.slice none 0 0] n=zeO (List.replicate n ([],none,0)):=fun n=>by
   induction n with
   | zero=>rfl
   | succ n ih =>
    show Value.slice none 0 0::zcO [Value.slice none 0 0] n=slV ([],none,0)::zeO (List.replicate n ([],none,0));rw[<- ih];rfl
  have fX:X.heap[w.heap.size]?=some (.cells (zcO [Value.slice none 0 0] locs).toArray 89 (0,0)):=fX;rw[ez,<- hW0,<- hB] at fX;have hmX:=(hbX.block b hbw).trans hm;refine zm k90 hmX (o:=0+335) (v := .slice (some ⟨w.heap.size,0,none⟩) locs locs) rfl rfl (by rw[lap,zW];decide) rfl fun Y fY gY sY=>?_;rw[show 0+335=333+2 from rfl,zlc] at fY;exact⟨(),(cvE rfl rfl),by rw[hB];exact fY,(gY.block B (hlt fX) (by simp;omega)).trans fX,zd (zi hbX) gY,by rw[sY,sX,hB];omega⟩
 rintro _ X ⟨hmX,fX,gX,sX⟩;refine⟨List zbk,fun W=>⟨[(0,At0 b)],[]⟩,fun W Z=>zbM Z b x q c [qg,qg,.slice (some ⟨B,0,none⟩) locs locs]/\RowLH Z B W/\w.grownBy Z (some b)/\W.length=locs/\W.map (·.1)=(zat x locs).wr/\Rows B Z W/\∀y∈W,y.1.length<=48/\∀a∈y.1,a<x.ev.length,?_,?_⟩
 ·refine⟨_,zdB hmX,?_⟩;refine⟨Nat×List zbk,fun s=>⟨[(0,At0 b),(20,.slice q x.ev.length c),(21,i64 x.ev.length),(22,i64 (s.1:Nat))],[]⟩,
   fun s Z=>s.1<=x.ev.length/\zbM Z b x q c [qg,qg,.slice (some ⟨B,0,none⟩) locs locs]/\RowLH Z B s.2/\w.grownBy Z (some b)/\s.2.length=locs/\zjv s.1 (x.ev.drop s.1) (s.2.map (·.1))=(zat x locs).wr/\Rows B Z s.2/\(∀y∈s.2,y.1.length<=s.1/\∀a∈y.1,a<x.ev.length),fun s=>x.ev.length-s.1,(0,W0),
   (cvE rfl rfl),⟨UZ _,hmX,fX,gX,hW0l,by rw[hW0,List.map_replicate];rfl,by rw[hW0];exact Rows.nils _ _ _,fun y hy=>by rw[hW0] at hy;rw[Jt hy];exact⟨UZ _,fun a ha=>by cases ha⟩⟩,?_⟩
  clear hmX fX gX sX;rintro⟨k,W⟩ Z ⟨hk,hmZ,fZ,gZ,hWl,hacc,hR,hL⟩;dsimp only at hk fZ hWl hacc hR hL ⊢;refine biE (fun hc=>?_) fun hc=>?_
  ·have hc:(k:Int)<(x.ev.length:Int):=dT hc;have hkl:k<x.ev.length:=by omega
   obtain⟨e,he⟩:∃e,x.ev[k]=e:=⟨_,rfl⟩;have hem:e∈x.ev:=by rw[<- he];exact gM hkl
   rw[<- JD hkl,he] at hacc;have hacc:zjv (k+1) (x.ev.drop (k+1)) (if e.k=2 then(W.map (·.1)).set e.l.toNat ((W.map (·.1)).getD e.l.toNat []++[k]) else W.map (·.1))=(zat x locs).wr:=hacc;have hlZ:=ztp hl hqb gZ;obtain⟨bp,op,hqe,hlp,hat⟩:=hlZ.at hkl;subst hqe;refine⟨k,rfl,hkl,evE.enc e,rfl,by rw[<- he];exact hat k hkl,hlp,?_⟩;refine zo (X:=Z) (v := .agg (evE.enc e).toArray) k80 rfl rfl (Qg.2 fun u hu=>evE.one e u hu) fun Y hbY fY sY=>?_;have gY:=zd gZ (zi (row:=some b) hbY);have hmY:=zb hbY hmZ;have fBY:=zb hbY fZ;have hRY:Rows B Y W:=hR.same fun y hy a ha=>hbY.block _ (zz (hR.own y hy) ha).2.1;have fY:Y.heap[Z.heap.size]?=some (.cells (evE.enc e).toArray 80 (0,0)):=fY;refine⟨u8 e.k,zc (za fY) (i:=1) rfl,biE (fun h=>?_) fun h=>?_⟩
   ·have h:e.k=2:=qS.1 (dT h);rw[Gn h] at hacc;have hll:=hv e hem (.inr h);obtain⟨l,hle⟩:∃l,e.l.toNat=l:=⟨_,rfl⟩;rw[hle] at hacc hll;have hlW:l<W.length:=(by omega);obtain⟨y,hy⟩:∃y,W[l]?=some y:=⟨_,gE hlW⟩;have hym:y∈W:=JW hy;have hgd:(W.map (·.1)).getD l []=y.1:=(by rw[gDe,KT,hy];rfl);rw[hgd] at hacc;have hyo:=hRY.own y hym;have hylen:=(hL y hym).1;have hrl:(zeO W)[l]?=some (slV y):=(by unfold zeO;rw[KT,hy];rfl);have hd:Bw Y Y.drew:=(Gb _ Y).drew;have hba:Below Y.drew.heap.size Y.drew (Y.drew.alloc (.cells (zF.enc k).toArray 3)):=zba _ _;have sa:(Y.drew.alloc (.cells (zF.enc k).toArray 3)).heap.size=Y.heap.size+1:=wz _ _;have nB:=ziu hyo fBY (by decide);have nb:=ziu hyo hmY (by decide);have fin:∀p2 c2 V,OwnS zF 3 B V p2 c2 (y.1++[k])->(Y.drew.alloc (.cells (zF.enc k).toArray 3)).grownBy V (Value.slice y.2.1 y.1.length y.2.2).ownBlock->(∀a,p2=some a->y.2.1=some a\/a.block=(Y.drew.alloc (.cells (zF.enc k).toArray 3)).heap.size) ->
      (zbM V b x (some ⟨bp,op,none⟩) c [qg,qg,.slice (some ⟨B,0,none⟩) locs locs]/\V.heap[Z.heap.size]?=some (.cells (evE.enc e).toArray 80 (0,0))) /\
      SatR ((storeVar 89 ⟨B,0+l*1,none⟩ (slV (y.1++[k],p2,c2))).run PG V) fun _ S=>zbM S b x (some ⟨bp,op,none⟩) c [qg,qg,.slice (some ⟨B,0,none⟩) locs locs]/\RowLH S B (W.set l (y.1++[k],p2,c2))/\w.grownBy S (some b)/\(W.set l (y.1++[k],p2,c2)).length=locs/\zjv (k+1) (x.ev.drop (k+1)) ((W.set l (y.1++[k],p2,c2)).map (·.1))=(zat x locs).wr/\Rows B S (W.set l (y.1++[k],p2,c2))/\∀z∈W.set l (y.1++[k],p2,c2),z.1.length<=k+1/\∀a∈z.1,a<x.ev.length:=by
     intro p2 c2 V oV gV hat2;obtain⟨U,hU⟩:=nm (Y.drew.alloc (.cells (zF.enc k).toArray 3));rw[<- hU] at gV hba sa hat2;have hbYU:Bw Y U:=hd.trans hba;rw[za4] at gV;have gYV:Y.grownBy V (y.2.1.map Addr.block):=zd (zi hbYU) gV;have fBV:RowLH V B W:=(gYV.block B (hlt fBY) nB).trans fBY;have hmV:=(gYV.block b (hlt hmY) nb).trans hmY;have nE:=ziu hyo fY (by decide);refine⟨⟨hmV,(gYV.block _ (hlt fY) nE).trans fY⟩,zm k89 fBV (o:=0+l*1) (v:=slV (y.1++[k],p2,c2)) rfl rfl (by unfold zeO;rw[QJ];omega) rfl fun S fS gS sS=>?_⟩;have fS2:RowLH S B (W.set l (y.1++[k],p2,c2)):=by
      rw[UX,UQ] at fS;refine fS.trans ?_;unfold zeO;rw[UH]
     have hRV:Rows B V (W.set l (y.1++[k],p2,c2)):=hRY.set (y:=(y.1++[k],p2,c2)) hy oV gYV fun a ha=>(hat2 a ha).imp id fun h=>by omega
     have hRS:Rows B S (W.set l (y.1++[k],p2,c2)):=hRV.same fun z hz a ha=>gS.block _ (zz (hRV.own z hz) ha).2.1 fun e=>by
      have h1:=ziu (hRV.own z hz) fBV (by decide);rw[ha] at h1;exact h1 e.symm
     have gyb:w.grownBy S (some b):=by
      have hBb:B≠b:=(by omega);have e1:Below B Y S:=by
       refine Below.trans ⟨gYV.os,gYV.tape,gYV.output,gYV.size,fun j hj=>gYV.block j (by have:=hlt fBY;omega) fun e=>?_⟩ (zl gS (by have:=hlt fBV;omega) (UW _))
       cases hp:y.2.1 with
       | none=>rw [hp] at e;cases e
       | some a =>
        rw[hp] at e;simp only[Ub,KY] at e;have:=(zz hyo hp).1;omega
      rw[hB] at e1;exact jD gY e1
     refine⟨(gS.block b (hlt hmV) (by simp;omega)).trans hmV,fS2,gyb,by rw[QL];exact hWl,?_,hRS,fun z hz=>?_⟩
     ·rw[UH];exact hacc
     ·rcases List.mem_or_eq_of_mem_set hz with h | h
      ·exact⟨by have:=(hL z h).1;omega,(hL z h).2⟩
      ·rw[h];refine⟨by simp only[lap,Qp,QK];omega,fun a ha=>?_⟩;rcases QN.1 ha with ha | ha
       ·exact(hL y hym).2 a ha
       ·rw[KB.1 ha];exact hkl
    refine DrawE.treeR [16,18] (.op 0 (.op 1 (.op 2 (.op 4 (.op 6 (.op 7 (.op 8 (.op 9 (.op 10 (.op 11 (.op 12 (.op 13 (.op 14 (.alt (.op 15 (.alt (.op 16 (.alt (.op 3 (.op 5 (.op 17 (.op 18 (.nil))))) (.op 5 (.op 3 (.op 17 (.op 18 (.nil))))))) (.alt (.op 3 (.alt (.op 16 (.op 5 (.op 17 (.op 18 (.nil))))) (.op 5 (.op 16 (.op 17 (.op 18 (.nil))))))) (.op 5 (.alt (.op 16 (.op 3 (.op 17 (.op 18 (.nil))))) (.op 3 (.op 16 (.op 17 (.op 18 (.nil)))))))))) (.alt (.op 3 (.alt (.op 15 (.alt (.op 16 (.op 5 (.op 17 (.op 18 (.nil))))) (.op 5 (.op 16 (.op 17 (.op 18 (.nil))))))) (.op 5 (.op 15 (.op 16 (.op 17 (.op 18 (.nil)))))))) (.op 5 (.alt (.op 15 (.alt (.op 16 (.op 3 (.op 17 (.op 18 (.nil))))) (.op 3 (.op 16 (.op 17 (.op 18 (.nil))))))) (.op 3 (.op 15 (.op 16 (.op 17 (.op 18 (.nil))))))))))))))))))))))) (by kernel_rfl) ⟨_,zaJ (hdr hmY) (i:=2) rfl,u8 e.l,zc (za (hdr fY)) (i:=2) rfl,l,by rw[<- hle],hll,?_⟩;refine⟨slV y,by have:=zc (za (hdr fBY)) (i:=l*1) (v:=slV y) (by rw[UX];exact hrl);exact this,?_⟩;have hsz:x.ev.length-(k+1)<x.ev.length-k:=(by omega);have app:∀{K:Value->Wd->Prop},(∀p2 c2 V,((zbM V b x (some ⟨bp,op,none⟩) c [qg,qg,.slice (some ⟨B,0,none⟩) locs locs]/\V.heap[Z.heap.size]?=some (.cells (evE.enc e).toArray 80 (0,0))) /\
      SatR ((storeVar 89 ⟨B,0+l*1,none⟩ (slV (y.1++[k],p2,c2))).run PG V) fun _ S=>zbM S b x (some ⟨bp,op,none⟩) c [qg,qg,.slice (some ⟨B,0,none⟩) locs locs]/\RowLH S B (W.set l (y.1++[k],p2,c2))/\w.grownBy S (some b)/\(W.set l (y.1++[k],p2,c2)).length=locs/\zjv (k+1) (x.ev.drop (k+1)) ((W.set l (y.1++[k],p2,c2)).map (·.1))=(zat x locs).wr/\Rows B S (W.set l (y.1++[k],p2,c2))/\∀z∈W.set l (y.1++[k],p2,c2),z.1.length<=k+1/\∀a∈z.1,a<x.ev.length)->K (slV (y.1++[k],p2,c2)) V) ->
      SatR ((Builtin.append_ #[89,89] 89 #[slV y,.slice (some ⟨Y.drew.heap.size,0,none⟩) 1 1]).run PG (Y.drew.alloc (.cells (zF.enc k).toArray 3))) K:=fun{K} h =>
     jG (E:=zF) (T:=3) (B:=B) (l:=y.1) (news:=[k]) (cap:=y.2.2) (m:=1) Tryz.underlying89 k3 rfl rfl rfl (hyo.below (hd.trans hba)) rfl (q9 zF k) (by have:=gY.size;omega) (by omega) (by show(y.1.length+1)*8<=_;omega) fun p2 c2 V oV gV hbV hat2=>h p2 c2 V (fin p2 c2 V oV gV hat2)
    have hmA:=qO (.cells (zF.enc k).toArray 3 (0,0)) (hdr hmY);have fEA:=qO (.cells (zF.enc k).toArray 3 (0,0)) (hdr fY);refine Gf ?_ (Gf ?_ ?_)
    ·refine⟨⟨by decide,by decide,rfl⟩,zF.enc k,rfl,hba,Gf ?_ (Gf ?_ ?_)⟩
     ·refine app fun p2 c2 V ⟨⟨hmV,fEV⟩,hst⟩=>Gf ?_ ?_
      ·refine⟨_,zaJ hmV (i:=2) rfl,u8 e.l,zc (za fEV) (i:=2) rfl,l,by rw[<- hle],hll,?_⟩;refine SatR.mono hst ?_;rintro _ S hS;exact nxI (by omega) ⟨(k+1,W.set l (y.1++[k],p2,c2)),(cvE rfl rfl),⟨hkl,hS⟩,hsz⟩
      ·refine⟨u8 e.l,zc (za fEV) (i:=2) rfl,_,zaJ hmV (i:=2) rfl,l,by rw[<- hle],hll,?_⟩;refine SatR.mono hst ?_;rintro _ S hS;exact nxI (by omega) ⟨(k+1,W.set l (y.1++[k],p2,c2)),(cvE rfl rfl),⟨hkl,hS⟩,hsz⟩
     ·refine⟨_,zaJ hmA (i:=2) rfl,Gf ?_ ?_⟩
      ·refine app fun p2 c2 V ⟨⟨hmV,fEV⟩,hst⟩=>⟨u8 e.l,zc (za fEV) (i:=2) rfl,l,by rw[<- hle],hll,?_⟩;refine SatR.mono hst ?_;rintro _ S hS;exact nxI (by omega) ⟨(k+1,W.set l (y.1++[k],p2,c2)),(cvE rfl rfl),⟨hkl,hS⟩,hsz⟩
      ·refine⟨u8 e.l,zc (za fEA) (i:=2) rfl,app fun p2 c2 V ⟨⟨hmV,fEV⟩,hst⟩=>⟨l,by rw[<- hle],hll,?_⟩⟩;refine SatR.mono hst ?_;rintro _ S hS;exact nxI (by omega) ⟨(k+1,W.set l (y.1++[k],p2,c2)),(cvE rfl rfl),⟨hkl,hS⟩,hsz⟩
     ·refine⟨u8 e.l,zc (za fEA) (i:=2) rfl,Gf ?_ ?_⟩
      ·refine app fun p2 c2 V ⟨⟨hmV,fEV⟩,hst⟩=>⟨_,zaJ hmV (i:=2) rfl,l,by rw[<- hle],hll,?_⟩;refine SatR.mono hst ?_;rintro _ S hS;exact nxI (by omega) ⟨(k+1,W.set l (y.1++[k],p2,c2)),(cvE rfl rfl),⟨hkl,hS⟩,hsz⟩
      ·refine⟨_,zaJ hmA (i:=2) rfl,app fun p2 c2 V ⟨⟨hmV,fEV⟩,hst⟩=>⟨l,by rw[<- hle],hll,?_⟩⟩;refine SatR.mono hst ?_;rintro _ S hS;exact nxI (by omega) ⟨(k+1,W.set l (y.1++[k],p2,c2)),(cvE rfl rfl),⟨hkl,hS⟩,hsz⟩
    ·refine⟨_,zaJ (hdr hmY) (i:=2) rfl,Gf ?_ ?_⟩
     ·refine⟨⟨by decide,by decide,rfl⟩,zF.enc k,rfl,hba,Gf ?_ ?_⟩
      ·refine app fun p2 c2 V ⟨⟨hmV,fEV⟩,hst⟩=>⟨u8 e.l,zc (za fEV) (i:=2) rfl,l,by rw[<- hle],hll,?_⟩;refine SatR.mono hst ?_;rintro _ S hS;exact nxI (by omega) ⟨(k+1,W.set l (y.1++[k],p2,c2)),(cvE rfl rfl),⟨hkl,hS⟩,hsz⟩
      ·refine⟨u8 e.l,zc (za fEA) (i:=2) rfl,app fun p2 c2 V ⟨⟨hmV,fEV⟩,hst⟩=>⟨l,by rw[<- hle],hll,?_⟩⟩;refine SatR.mono hst ?_;rintro _ S hS;exact nxI (by omega) ⟨(k+1,W.set l (y.1++[k],p2,c2)),(cvE rfl rfl),⟨hkl,hS⟩,hsz⟩
     ·refine⟨u8 e.l,zc (za (hdr fY)) (i:=2) rfl,⟨by decide,by decide,rfl⟩,zF.enc k,rfl,hba,app fun p2 c2 V ⟨⟨hmV,fEV⟩,hst⟩=>⟨l,by rw[<- hle],hll,?_⟩⟩;refine SatR.mono hst ?_;rintro _ S hS;exact nxI (by omega) ⟨(k+1,W.set l (y.1++[k],p2,c2)),(cvE rfl rfl),⟨hkl,hS⟩,hsz⟩
    ·refine⟨u8 e.l,zc (za (hdr fY)) (i:=2) rfl,Gf ?_ ?_⟩
     ·refine⟨⟨by decide,by decide,rfl⟩,zF.enc k,rfl,hba,Gf ?_ ?_⟩
      ·refine app fun p2 c2 V ⟨⟨hmV,fEV⟩,hst⟩=>⟨_,zaJ hmV (i:=2) rfl,l,by rw[<- hle],hll,?_⟩;refine SatR.mono hst ?_;rintro _ S hS;exact nxI (by omega) ⟨(k+1,W.set l (y.1++[k],p2,c2)),(cvE rfl rfl),⟨hkl,hS⟩,hsz⟩
      ·refine⟨_,zaJ hmA (i:=2) rfl,app fun p2 c2 V ⟨⟨hmV,fEV⟩,hst⟩=>⟨l,by rw[<- hle],hll,?_⟩⟩;refine SatR.mono hst ?_;rintro _ S hS;exact nxI (by omega) ⟨(k+1,W.set l (y.1++[k],p2,c2)),(cvE rfl rfl),⟨hkl,hS⟩,hsz⟩
     ·refine⟨_,zaJ (hdr hmY) (i:=2) rfl,⟨by decide,by decide,rfl⟩,zF.enc k,rfl,hba,app fun p2 c2 V ⟨⟨hmV,fEV⟩,hst⟩=>⟨l,by rw[<- hle],hll,?_⟩⟩;refine SatR.mono hst ?_;rintro _ S hS;exact nxI (by omega) ⟨(k+1,W.set l (y.1++[k],p2,c2)),(cvE rfl rfl),⟨hkl,hS⟩,hsz⟩
   ·have h:¬e.k=2:=fun e'=>dF h (by rw[e'];rfl);rw[Gm h] at hacc;exact nxI (by omega) ⟨(k+1,W),(cvE rfl rfl),⟨hkl,hmY,fBY,gY,hWl,hacc,hRY,fun y hy=>⟨by have:=(hL y hy).1;show _<=k+1;omega,(hL y hy).2⟩⟩,zdc (by omega)⟩
  ·have hc:¬(k:Int)<(x.ev.length:Int):=dF hc;obtain rfl:k=x.ev.length:=by omega
   rw[Qj] at hacc;exact⟨W,(cvE rfl rfl),hmZ,fZ,gZ,hWl,hacc,hR,fun y hy=>⟨by have:=(hL y hy).1;omega,(hL y hy).2⟩⟩
 rintro W X ⟨hmX,fX,gX,hWl,hwr,hR,hWb⟩;refine⟨_,zdB hmX,?_⟩;obtain⟨RS,hRS⟩:=nm ((zat x locs).rs);have hRSg:RS=zcl x.ev (W.map (·.1)) 0 x.ev:=by rw[hRS,hwr];rfl
 rw[<- hRS,<- hwr];have sX:B<X.heap.size:=hlt fX;refine⟨Nat×List (Nat×List Nat)×List zbk×(OA×Nat)×(OA×Nat),fun s=>⟨[(0,At0 b),(53,.slice q x.ev.length c),(54,i64 x.ev.length),(55,i64 (s.1:Nat))],[]⟩,
  fun s Z=>s.1<=x.ev.length/\RS=s.2.1++zcl x.ev (W.map (·.1)) s.1 (x.ev.drop s.1)/\s.2.1.length<=s.1/\s.2.2.1.map (·.1)=s.2.1.map (·.2)/\zbM Z b x q c [.slice s.2.2.2.1.1 (s.2.1.map (·.1)).length s.2.2.2.1.2,.slice s.2.2.2.2.1 s.2.2.1.length s.2.2.2.2.2,.slice (some ⟨B,0,none⟩) locs locs]/\RowLH Z B W/\w.grownBy Z (some b)/\(∀y∈W,OwnS zF 3 B Z y.2.1 y.2.2 y.1)/\(∀y∈s.2.2.1,OwnS zF 3 B Z y.2.1 y.2.2 y.1) /\
   OwnS zF 3 B Z s.2.2.2.1.1 s.2.2.2.1.2 (s.2.1.map (·.1))/\OwnS jt 89 B Z s.2.2.2.2.1 s.2.2.2.2.2 s.2.2.1/\(∀a,s.2.2.2.1.1=some a->∀y,y∈s.2.2.1\/y∈W->∀b',y.2.1=some b'->a.block≠b'.block)/\(∀a,s.2.2.2.2.1=some a->a.block≠B),
  fun s=>x.ev.length-s.1,(0,[],[],(none,0),(none,0)),
  (cvE rfl rfl),⟨UZ _,hRSg,UW _,rfl,hmX,fX,gX,hR.own,fun y hy=>(by cases hy),OwnS.nil,OwnS.nil,fun a ha=>(by cases ha),fun a ha=>(by cases ha)⟩,?_⟩
 clear hmX fX gX hR sX;rintro⟨k,dn,xs,⟨p1,c1⟩,⟨p2,c2⟩⟩ Z ⟨hk,hspec,hdl,hxs,hmZ,fZ,gZ,hWo,hxo,ho1,ho2,hd1,hd2⟩;dsimp only at hk hspec hdl hxs hmZ hxo ho1 ho2 hd1 hd2 ⊢;refine biE (fun hc=>?_) fun hc=>?_
 ·have hc:(k:Int)<(x.ev.length:Int):=dT hc;have hkl:k<x.ev.length:=by omega
  obtain⟨e,he⟩:∃e,x.ev[k]=e:=⟨_,rfl⟩;have hem:e∈x.ev:=by rw[<- he];exact gM hkl
  rw[<- JD hkl,he] at hspec;have hlZ:=ztp hl hqb gZ;obtain⟨bp,op,hqe,hlp,hat⟩:=hlZ.at hkl;subst hqe;refine⟨k,rfl,hkl,evE.enc e,rfl,by rw[<- he];exact hat k hkl,hlp,?_⟩;refine zo (X:=Z) (v := .agg (evE.enc e).toArray) k80 rfl rfl (Qg.2 fun u hu=>evE.one e u hu) fun Y hbY fY sY=>?_;have gY:=zd gZ (zi (row:=some b) hbY);have hmY:=zb hbY hmZ;have fBY:=zb hbY fZ;have fY:Y.heap[Z.heap.size]?=some (.cells (evE.enc e).toArray 80 (0,0)):=fY;refine⟨u8 e.k,zc (za fY) (i:=1) rfl,biE (fun h=>?_) fun h=>?_⟩
  ·have h:¬e.k=1:=fun e'=>by
    rw[e'] at h;exact Gp h (by decide)
   have hspec:RS=dn++(if e.k=1 then(k,((W.map (·.1)).getD e.l.toNat []).filter fun w=>decide ((x.ev.getD w ev0).v=e.v))::zcl x.ev (W.map (·.1)) (k+1) (x.ev.drop (k+1)) else zcl x.ev (W.map (·.1)) (k+1) (x.ev.drop (k+1))):=hspec;rw[Gm h] at hspec;exact nxI (by omega) ⟨(k+1,dn,xs,(p1,c1),(p2,c2)),(cvE rfl rfl),⟨hkl,hspec,by show dn.length<=k+1;omega,hxs,hmY,fBY,gY,fun y hy=>(hWo y hy).below hbY,fun y hy=>(hxo y hy).below hbY,ho1.below hbY,ho2.below hbY,hd1,hd2⟩,zdc (by omega)⟩
  ·have h1:decide ((e.k.toNat:Int)=1)=true:=by simpa using h
   have h:e.k=1:=qS.1 (dT h1);obtain⟨l,hle⟩:∃l,e.l.toNat=l:=⟨_,rfl⟩;have hll:l<locs:=by rw[<- hle];exact hv e hem (.inl h)
   have hlW:l<W.length:=by omega
   obtain⟨y,hy⟩:∃y,W[l]?=some y:=⟨_,gE hlW⟩;have hym:y∈W:=JW hy;have hgd:(W.map (·.1)).getD l []=y.1:=by rw[gDe,KT,hy];rfl
   obtain⟨P,hP⟩:∃P:Nat->Bool,P=fun w=>decide ((x.ev.getD w ev0).v=e.v):=⟨_,rfl⟩;have hspec:RS=dn++(k,y.1.filter P)::zcl x.ev (W.map (·.1)) (k+1) (x.ev.drop (k+1)):=by
    have hspec:RS=dn++(if e.k=1 then(k,((W.map (·.1)).getD e.l.toNat []).filter fun w=>decide ((x.ev.getD w ev0).v=e.v))::zcl x.ev (W.map (·.1)) (k+1) (x.ev.drop (k+1)) else zcl x.ev (W.map (·.1)) (k+1) (x.ev.drop (k+1))):=hspec;rw[Gn h,hle,hgd,<- hP] at hspec;exact hspec
   obtain⟨hy48,hyb⟩:=hWb y hym;have hyo:=(hWo y hym).below hbY;have hrl:(zeO W)[l]?=some (slV y):=by unfold zeO;rw[KT,hy];rfl
   have hd:Bw Y Y.drew:=(Gb _ Y).drew;refine DrawE.ord [] [0,1,2,3,4,5,6,7,8,9] (by kernel_rfl) ⟨_,zaJ (hdr hmY) (i:=2) rfl,u8 e.l,zc (za (hdr fY)) (i:=2) rfl,l,by rw[<- hle],hll,?_⟩;refine⟨slV y,by have:=zc (za (hdr fBY)) (i:=l*1) (v:=slV y) (by rw[UX];exact hrl);exact this,?_⟩;obtain⟨M,hM⟩:=nm (Y.heap.size);refine⟨Nat×List Nat×OA×Nat,fun s=>⟨[(0,At0 b),(6,i64 (k:Nat)),(7,At0 Z.heap.size),(8,.slice s.2.2.1 s.2.1.length s.2.2.2),(53,.slice (some ⟨bp,op,none⟩) x.ev.length c),(54,i64 x.ev.length),(55,i64 (k:Nat)),(70,slV y),(71,i64 y.1.length),(72,i64 (s.1:Nat))],[]⟩,
    fun s V=>s.1<=y.1.length/\s.2.1=(y.1.take s.1).filter P/\OwnS zF 3 M V s.2.2.1 s.2.2.2 s.2.1/\Below M Y V,fun s=>y.1.length-s.1,(0,[],none,0),
    (cvE rfl rfl),⟨UZ _,rfl,OwnS.nil,by rw[hM];exact hd⟩,?_⟩
   rintro⟨i,fr,p3,c3⟩ V ⟨hi,hfr,hoV,hbV⟩;dsimp only at hi hfr hoV ⊢;have sV:=hbV.size;have hmV:=(hbV.block b (by have:=hlt hmY;omega)).trans hmY;have fEV:=(hbV.block Z.heap.size (by have:=hlt fY;omega)).trans fY;have fBV:=(hbV.block B (by have:=hlt fBY;omega)).trans fBY;have hbYV:Bw Y V:=by rw[hM] at hbV;exact hbV
   have hyoV:=hyo.below hbYV;have hfl:fr.length<=i:=by rw[hfr];exact UL (JK _ _) (by rw[Qr];exact Nat.min_le_left _ _)
   refine biE (fun hc=>?_) fun hc=>?_
   ·have hc:(i:Int)<(y.1.length:Int):=dT hc;have hil:i<y.1.length:=(by omega);have hyi:=hyb y.1[i] (gM hil);have hlV:=ztp hl hqb (jD gY (hbV.mono (by have:=gY.size;omega)));obtain⟨by_,oy,hye,hly,haty⟩:=hyoV.row.at hil;obtain⟨bq,oq,hqe,hlq,hatq⟩:=hlV.at hyi;simp only[KY,Ur,Gh] at hqe;obtain⟨rfl,rfl⟩:=hqe;have htk:(y.1.take (i+1)).filter P=fr++(if P y.1[i] then[y.1[i]] else[]):=by
     rw[tsg hil,Kw,hfr]
     cases hPi:P y.1[i] <;> simp[hPi]
    have hPv:P y.1[i]=decide (x.ev[y.1[i]].v=e.v):=by
     rw[hP];show decide ((x.ev.getD y.1[i] ev0).v=e.v)=_;rw[gDe,gE hyi];rfl
    rw[show slV y = .slice (some ⟨by_,oy,none⟩) y.1.length y.2.2 by unfold slV;rw[hye]];refine⟨i,rfl,hil,i64 y.1[i],zc (haty i hil) (i:=0) rfl,DrawE.ord [] [0,1,2,3,4,5,6,7,8,9,10,11] (by kernel_rfl) ⟨_,zdB (hdr hmV),y.1[i],rfl,hyi,?_⟩⟩;have hdV:Bw V V.drew:=(Gb _ V).drew;refine⟨u8 x.ev[y.1[i]].v,by have:=zc (zw hdV (hatq y.1[i] hyi)) (i:=3) (v:=u8 x.ev[y.1[i]].v) rfl;exact this,u8 e.v,zc (za (hdr fEV)) (i:=3) rfl,biE (fun hq=>?_) fun hq=>?_⟩
    ·have hq:x.ev[y.1[i]].v=e.v:=qS.1 (dT hq);rw[hPv,Up hq,Gn rfl] at htk;refine⟨⟨by decide,by decide,rfl⟩,zF.enc y.1[i],rfl,?_⟩;have hba:Below V.drew.heap.size V.drew (V.drew.alloc (.cells (zF.enc y.1[i]).toArray 3)):=zba _ _;refine jG (E:=zF) (T:=3) (B:=M) (l:=fr) (news:=[y.1[i]]) (cap:=c3) (m:=1) Tryz.underlying89 k3 rfl rfl rfl (hoV.below (hdV.trans hba)) rfl (q9 zF y.1[i]) (by have:=hba.size;have:=hdV.size;omega) (by omega) (by show(fr.length+1)*8<=_;omega) ?_;intro p4 c4 U oU gU hbU hat4;refine nxI (by omega) ⟨(i+1,fr++[y.1[i]],p4,c4),(cvE rfl rfl),⟨hil,htk.symm,oU,?_⟩,zdc (by omega)⟩;exact((hbV.trans (hdV.mono (by omega))).trans (hba.mono (by have:=hdV.size;omega))).trans hbU
    ·have hq:¬x.ev[y.1[i]].v=e.v:=fun e'=>dF hq (by rw[e']);rw[hPv,Ue hq] at htk;simp only[Ku,Gj,QG] at htk;exact nxI (by omega) ⟨(i+1,fr,p3,c3),(cvE rfl rfl),⟨hil,htk.symm,hoV.below hdV,hbV.trans (hdV.mono (by omega))⟩,zdc (by omega)⟩
   ·have hc:¬(i:Int)<(y.1.length:Int):=dF hc;obtain rfl:i=y.1.length:=(by omega);rw[Qt] at hfr;have hbMB:B<=M:=(by have:=hlt fBY;omega);have hxlen:xs.length=dn.length:=by
     have:=Gi List.length hxs;simpa using this
    refine⟨.slice p1 (dn.map (·.1)).length c1,zaJ hmV (i:=0) rfl,⟨by decide,by decide,rfl⟩,zF.enc k,rfl,?_⟩;obtain⟨V1,hV1⟩:=nm (V.alloc (.cells (zF.enc k).toArray 3));have hb1:Bw V V1:=(by rw[hV1];exact(zba _ _));have s1:V1.heap.size=V.heap.size+1:=(by rw[hV1];exact wz _ _);have hZV:Bw Z V:=zst hbY hbYV;have hZV1:Bw Z V1:=zst hZV hb1;have ho1V:=ho1.below hZV1;rw[<- hV1];refine zrE ho1V (by rw[hV1];exact q9 zF k) (by omega) (by rw[QJ];omega) fun q1 d1 U oU gU hat1=>?_;rw[za4] at gU;have hmV1:=zb hb1 hmV;have hmU:=qK hmV1 ho1V (by decide) gU;have fBU:=qK (zb hb1 fBV) ho1V (by decide) gU;refine zm k89 hmU (o:=0+333) (v := .slice q1 (dn.map (·.1)++[k]).length d1) rfl rfl (by rw[lap,zW];show 333<336;decide) rfl fun S fS gS sS=>?_;rw[show 0+333=333+0 from rfl,zlc] at fS;have fS:zbM S b x (some ⟨bp,op,none⟩) c [.slice q1 (dn.map (·.1)++[k]).length d1,.slice p2 xs.length c2,.slice (some ⟨B,0,none⟩) locs locs]:=fS;have p1M:∀a,p1=some a->a.block<M:=fun a ha=>by have:=(zz ho1 ha).2.1;have:=hbY.size;omega
    have hoU:OwnS zF 3 M U p3 c3 fr:=zdY (hoV.below hb1) gU fun a b' ha hb e=>by have:=p1M a ha;have:=(zz hoV hb).1;omega
    have hWU:∀y∈W,OwnS zF 3 B U y.2.1 y.2.2 y.1:=fun y hy=>zdY ((hWo y hy).below hZV1) gU fun a b' ha hb=>hd1 a ha y (.inr hy) b' hb;have hxU:∀y∈xs,OwnS zF 3 B U y.2.1 y.2.2 y.1:=fun y hy=>zdY ((hxo y hy).below hZV1) gU fun a b' ha hb=>hd1 a ha y (.inl hy) b' hb;have ho2U:=zaI (ho2.below hZV1) ho1V (by decide) gU;have hoS:=qN hoU hmU (by decide) gS;have hWS:∀y∈W,OwnS zF 3 B S y.2.1 y.2.2 y.1:=fun y hy=>qN (hWU y hy) hmU (by decide) gS;have hxS:∀y∈xs,OwnS zF 3 B S y.2.1 y.2.2 y.1:=fun y hy=>qN (hxU y hy) hmU (by decide) gS;have ho2S:=qN ho2U hmU (by decide) gS;have ho1S:=qN oU hmU (by decide) gS;have hBb:B≠b:=(by omega);have fBS:=(gS.block B (hlt fBU) (by simp;omega)).trans fBU;refine⟨_,zaJ fS (i:=1) rfl,⟨by decide,by decide,rfl⟩,jt.enc (fr,p3,c3),rfl,?_⟩;obtain⟨S1,hS1⟩:=nm (S.alloc (.cells (jt.enc (fr,p3,c3)).toArray 89));have hbS1:Bw S S1:=(by rw[hS1];exact(zba _ _));have sS1:S1.heap.size=S.heap.size+1:=(by rw[hS1];exact wz _ _);have ho2S1:=ho2S.below hbS1;have sU:=gU.size;unfold zd1 zaN;show SatR _ _;rw[<- hS1];refine zyN ho2S1 (by rw[hS1];exact q9 jt (fr,p3,c3)) (by omega) (by omega) fun q2 d2 N oN gN hat2=>?_;rw[za4] at gN;have fN:=qK (zb hbS1 fS) ho2S1 (by decide) gN;refine zm k90 fN (o:=0+334) (v := .slice q2 (xs++[(fr,p3,c3)]).length d2) rfl rfl (by rw[lap,zW];show 334<336;decide) rfl fun O fO gO sO=>?_;rw[show 0+334=333+1 from rfl,zlc] at fO;have fO:zbM O b x (some ⟨bp,op,none⟩) c [.slice q1 ((dn++[(k,fr)]).map (·.1)).length d1,.slice q2 (xs++[(fr,p3,c3)]).length d2,.slice (some ⟨B,0,none⟩) locs locs]:=by
     rw[QM];exact fO
    have step:∀{q:OA} {cc:Nat} {ll:List Nat} {B':Nat},OwnS zF 3 B' S q cc ll->OwnS zF 3 B' O q cc ll:=fun h =>
     qN (zaI (h.below hbS1) ho2S1 (by decide) gN) fN (by decide) gO
    have h2B:∀a,p2=some a->a.block≠B:=hd2;have fBO:RowLH O B W:=by
     have h1:=zb hbS1 fBS;have h2:=(gN.block B (hlt h1) fun e=>by
      cases hp:p2 with
      | none=>rw [hp] at e;cases e
      | some a =>
       rw[hp] at e;simp only[Ub,KY] at e;exact hd2 a hp e.symm).trans h1
     exact(gO.block B (hlt h2) (by simp;omega)).trans h2
    have newr:∀a,q1=some a->p1=some a\/V.heap.size<=a.block:=fun a ha=>(hat1 a ha).imp id fun h=>by omega
    have new2:∀a,q2=some a->p2=some a\/U.heap.size<=a.block:=fun a ha=>(hat2 a ha).imp id fun h=>by omega
    have frM:∀a,p3=some a->M<=a.block/\a.block<V.heap.size:=fun a ha=>⟨(zz hoV ha).1,(zz hoV ha).2.1⟩;have hwb:w.grownBy O (some b):=by
     have sG:=gS.size;have sZ:=hlt fZ;have e0:Below B Z V1:=hZV1.mono (by omega);have e1:Below B V1 U:=jo ho1V (by omega) (UW _) gU;have e2:Below B S S1:=hbS1.mono (by omega);have e3:Below B S1 N:=jo ho2S1 (by omega) (UW _) gN;rw[hB] at e0 e1 e2 e3;exact zd (jD (jD (zd (jD (jD gZ e0) e1) gS) e2) e3) gO
    refine nxI (by omega) ⟨(k+1,dn++[(k,fr)],xs++[(fr,p3,c3)],(q1,d1),(q2,d2)),(cvE rfl rfl),⟨hkl,?_,?_,?_,fO,fBO,hwb,fun y hy=>step (hWS y hy),fun y hy=>?_,?_,qN oN fN (by decide) gO,fun a ha y hy b' hb'=>?_,fun a ha=>?_⟩,zdc (by omega)⟩
    ·show RS=(dn++[(k,fr)])++_;rw[hspec,<- hfr,KN];rfl
    ·show(dn++[(k,fr)]).length<=k+1;simp only[lap,Qp,QK];omega
    ·show(xs++[(fr,p3,c3)]).map (·.1)=(dn++[(k,fr)]).map (·.2);rw[QM,QM,hxs];rfl
    ·rcases QN.1 hy with hy | hy
     ·exact step (hxS y hy)
     ·rw[KB.1 hy];exact step (hoS.lower hbMB)
    ·show OwnS zF 3 B O q1 d1 ((dn++[(k,fr)]).map (·.1));rw[QM];exact step ho1S
    ·have old:(y∈xs\/y∈W)\/y=(fr,p3,c3):=by
      rcases hy with hy | hy
      ·rcases QN.1 hy with hy | hy
       ·exact .inl (.inl hy)
       ·exact .inr (KB.1 hy)
      ·exact .inl (.inr hy)
     rcases old with hy | rfl
     ·rcases newr a ha with h | h
      ·exact hd1 a h y hy b' hb'
      ·have:b'.block<Z.heap.size:=by
        rcases hy with hy | hy
        ·exact(zz (hxo y hy) hb').2.1
        ·exact(zz (hWo y hy) hb').2.1
       have:=hZV.size;omega
     ·have h3:=frM b' hb';rcases newr a ha with h | h
      ·have:=p1M a h;omega
      ·omega
    ·rcases new2 a ha with h | h
     ·exact hd2 a h
     ·omega
 ·have hc:¬(k:Int)<(x.ev.length:Int):=dF hc;obtain rfl:k=x.ev.length:=by omega
  rw[Qj] at hspec;have hspec:RS=dn++[]:=hspec;rw[QG] at hspec;subst hspec;refine⟨rfl,⟨p1,p2,some ⟨B,0,none⟩,c1,c2,locs,xs,W,by rw[hWl];rw[QJ] at hmZ;exact hmZ,by rw[<- hB];exact ho1,hxs,by rw[<- hB];exact ho2,by rw[<- hB];exact hxo,rfl,?_,by rw[<- hB];exact hWo⟩,gZ⟩;rw[<- hB];have:=fZ.own (B:=B) (UW _) (by unfold maxLen;omega);rw[hWl] at this;exact this
end
theorem zpz{P:Program}{w:Wd}{t ty:TypeId}{a b:Nat}{K:Value->Wd->Prop}(k:K (i64 (min a b:Nat)) w):SatR ((Builtin.min_ #[t,t] ty #[i64 a,i64 b]).run P w) K:=by
 refine SatR.mk (v:=i64 (min a b:Nat)) (w':=w) ?_ k;by_cases h:(b:Int)<a
 ·have e:min a b=b:=Nat.min_eq_right (by omega);rw[e];simp[Builtin.min_,Builtin.min2,i64,h]
 ·have e:min a b=a:=QW (by omega);rw[e];simp[Builtin.min_,Builtin.min2,i64,h]
section
variable{b o:Nat}{x:ExD}{q:OA}{c:Nat}{w:Wd}{r:Value}{p2 p3:OA}{c2 c3 lim:Nat}{xs ys:List zbk}
def ztG (lim:Nat) (fs ws:List (List Nat)):Nat:=match zf2 lim fs 1 with
 | none=>0
 | some n=>zhs lim ws n
theorem zvG(hm:zI w ⟨b,o,none⟩ (exC x q c++[r,.slice p2 xs.length c2,.slice p3 ys.length c3]))(h2:SlR jt w p2 xs)(h3:SlR jt w p3 ys)(hx:∀y∈xs,y.1.length<=1000)(hy:∀y∈ys,y.1.length<=1000)(hxl:xs.length<=1000)(hyl:ys.length<=1000)(hl0:1<=lim)(hl:lim<=100000) :
  Calls PG 27 #[.pointer (some ⟨b,o,none⟩),i64 lim] w fun e w'=>e = .returned (i64 (ztG lim (xs.map (·.1)) (ys.map (·.1)):Nat))/\w=w':=by
 refine zD 52 [.pointer (some ⟨b,o,none⟩),i64 lim] Tryz.func27 ?_;have g2:w.cell? ⟨b,o+334,none⟩=some (.slice p2 xs.length c2):=zc hm (zhI (i:=1) rfl);have g3:w.cell? ⟨b,o+335,none⟩=some (.slice p3 ys.length c3):=zc hm (zhI (i:=2) rfl);refine⟨_,g2,?_⟩;obtain⟨t,p⟩:=nm (xs.map (·.1));have ah:t.length=xs.length:=by rw[p,QJ]
 rw[<- p];refine⟨Nat×Nat,fun s=>⟨[(0,.pointer (some ⟨b,o,none⟩)),(1,i64 lim),(5,i64 (s.2:Nat)),(14,.slice p2 xs.length c2),(15,i64 xs.length),(16,i64 (s.1:Nat))],[]⟩,
  fun s X=>s.1<=xs.length/\s.2<=lim/\zf2 lim (t.drop s.1) s.2=zf2 lim t 1/\w=X,fun s=>xs.length-s.1,(0,1),
  (cvE rfl rfl),⟨UZ _,hl0,rfl,rfl⟩,?_⟩
 rintro⟨k,n⟩ _ ⟨hk,ae,a,rfl⟩;dsimp only at hk ae a ⊢;refine biE (fun f=>?_) fun f=>?_
 ·have f:(k:Int)<(xs.length:Int):=dT f;have d:k<xs.length:=by omega
  obtain⟨bp,op,rfl,ag,ab⟩:=h2.at d;have ad:t[k]'(by omega)=xs[k].1:=by simp[p]
  rw[<- JD (show k<t.length by omega),ad] at a;have a:(if xs[k].1=[] then none else zf2 lim (t.drop (k+1)) (min (n*xs[k].1.length) lim))=zf2 lim t 1:=a;have g:=hx xs[k] (gM d);refine⟨k,rfl,d,slV xs[k],zc (ab k d) (i:=0) rfl,biE (fun h=>?_) fun h=>?_⟩
  ·have h:(xs[k].1.length:Int)=0:=dT h;have h0:xs[k].1=[]:=Jf (by omega);rw[Gn h0] at a;refine⟨?_,rfl⟩;unfold ztG;rw[<- a];rfl
  ·have h:¬(xs[k].1.length:Int)=0:=dF h;have h0:xs[k].1≠[]:=fun e=>h (by rw[e];rfl);rw[Gm h0] at a;have al:n*xs[k].1.length<=100000*1000:=Un (by omega) g;exact⟨((n*xs[k].1.length:Nat):Int),by rw[QE];exact ze (by rw[<- QE];omega),zpz (nxI (by omega) ⟨(k+1,min (n*xs[k].1.length) lim),(cvE rfl rfl),⟨d,Qy _ _,a,rfl⟩,zdc (by omega)⟩)⟩
 have f:¬(k:Int)<(xs.length:Int):=dF f;rw[Jz (by omega)] at a;have a:some n=zf2 lim t 1:=a;have v:ztG lim t (ys.map (·.1))=zhs lim (ys.map (·.1)) n:=by unfold ztG;rw[<- a]
 rw[v];obtain⟨u,aa⟩:=nm (ys.map (·.1));have am:u.length=ys.length:=by rw[aa,QJ]
 rw[<- aa];clear v a f hk ah p g2;refine⟨_,g3,?_⟩;refine⟨Nat×Nat,fun s=>⟨[(0,.pointer (some ⟨b,o,none⟩)),(1,i64 lim),(5,i64 (s.2:Nat)),(33,.slice p3 ys.length c3),(34,i64 ys.length),(35,i64 (s.1:Nat))],[]⟩,
  fun s X=>s.1<=ys.length/\s.2<=lim/\zhs lim (u.drop s.1) s.2=zhs lim u n/\w=X,fun s=>ys.length-s.1,(0,n),
  (cvE rfl rfl),⟨UZ _,ae,rfl,rfl⟩,?_⟩
 rintro⟨k,n'⟩ _ ⟨hk,z,a,rfl⟩;dsimp only at hk z a ⊢;refine biE (fun f=>?_) fun f=>?_
 ·have f:(k:Int)<(ys.length:Int):=dT f;have d:k<ys.length:=by omega
  obtain⟨bp,op,rfl,ag,ab⟩:=h3.at d;have ad:u[k]'(by omega)=ys[k].1:=by simp[aa]
  rw[<- JD (show k<u.length by omega),ad] at a;obtain⟨L,hL⟩:=nm (ys[k].1.length);have a:zhs lim (u.drop (k+1)) (zht lim L L 2 n')=zhs lim u n:=by rw[hL];exact a
  have g:=hy ys[k] (gM d);rw[<- hL] at g;refine⟨k,rfl,d,slV ys[k],zc (ab k d) (i:=0) rfl,?_⟩;refine⟨Nat×Nat×Nat,fun s=>⟨[(0,.pointer (some ⟨b,o,none⟩)),(1,i64 lim),(5,i64 (s.2.2:Nat)),(9,slV ys[k]),(10,i64 (s.2.1:Nat)),(33,.slice (some ⟨bp,op,none⟩) ys.length c3),(34,i64 ys.length),(35,i64 (k:Nat))],[]⟩,
   fun s X=>s.2.2<=lim/\L<=s.2.1+s.1/\s.2.1<=L+2/\zht lim L s.1 s.2.1 s.2.2=zht lim L L 2 n'/\w=X,fun s=>s.1,(L,2,n'),
   (cvE rfl rfl),⟨z,by show L<=2+L;omega,by show 2<=L+2;omega,rfl,rfl⟩,?_⟩
  rintro⟨m,j,l⟩ _ ⟨af,ai,aj,hK,rfl⟩;dsimp only at af ai aj hK ⊢;refine biE (fun f=>?_) fun f=>?_
  ·have f:(j:Int)<(ys[k].1.length:Int):=dT f;have ac:j<L:=by omega
   obtain⟨m,rfl⟩:∃m',m=m'+1:=⟨m-1,by omega⟩;have hK:(if j<L then zht lim L m (j+1) (min (l*j) lim) else l)=zht lim L L 2 n':=hK;rw[Gn ac] at hK;have al:l*j<=100000*1000:=Un (by omega) (by omega);exact⟨((l*j:Nat):Int),by rw[QE];exact ze (by rw[<- QE];omega),zpz (nxI (by omega) ⟨(m,j+1,min (l*j) lim),(cvE rfl rfl),⟨Qy _ _,by show L<=j+1+m;omega,by show j+1<=L+2;omega,hK,rfl⟩,Qx _⟩)⟩
  ·have f:¬(j:Int)<(ys[k].1.length:Int):=dF f;have ac:¬j<L:=by omega
   have ak:l=zht lim L L 2 n':=by
    rw[<- hK]
    cases m with
    | zero=>rfl
    | succ m =>
     show l=if j<L then _ else l
     rw[Gm ac]
   exact nxI (by omega) ⟨(k+1,l),(cvE rfl rfl),⟨d,af,by rw[ak];exact a,rfl⟩,zdc (by omega)⟩
 ·have f:¬(k:Int)<(ys.length:Int):=dF f;rw[Jz (by omega)] at a;have a:n'=zhs lim u n:=a;rw[<- a];exact⟨rfl,rfl⟩
end
theorem zbP:(znC).toArray.size=333:=by kernel_rfl
theorem jY:(zdP).toArray.size=336:=by kernel_rfl
section
variable{w:Wd}
theorem zvy{n:Nat}:CB 129 #[i64 n] w (.agg (exC (ex0 n) none 0).toArray):=by
 refine qA 13 [i64 n] (.s .p (.c .p .p)) Tryz.func129 ?_;obtain⟨L,f⟩:=nm (w.heap.size);obtain⟨X0,b⟩:=nm (w.alloc (.cells (znC).toArray 78));have l:X0.heap[L]?=some (.cells (znC).toArray 78 (0,0)):=by rw[b,f];exact zt w _
 have k:X0.heap.size=L+1:=by rw[b,f];exact wz _ _
 have h:Bw w X0:=by rw[b];exact(zba w _)
 refine⟨Unit,fun _=>⟨[(2,At0 L),(3,At0 (L+1))],[]⟩,fun _ X=>X.heap[L]?=some (.cells (znC).toArray 78 (0,0))/\qb X (L+1) (zdN n)/\Bw w X,?_,?_⟩
 ·refine⟨zf (zdN n),rfl,zo (X:=w.alloc (.cells (znC).toArray 78 (0,0))) (v := .agg (zf (zdN n)).toArray) k76 (zg _) (by kernel_rfl) (zH _) fun V d g j=>?_⟩;rw[<- b] at d g j;rw[k] at g j;exact⟨(),⟨.cons (by rw[f];rfl) (.cons (by rw[<- k,b];rfl) .nil),rfl⟩,zb d l,g,(zst h d)⟩
 rintro _ X ⟨i,a,e⟩;refine⟨zf (zdN n),zg _,za a,hlt a,zf (zdN n),zg _,za a,hlt a,zf (zdN n),zg _,za a,hlt a,zf (zdN n),zg _,za a,hlt a,zf (zdN n),zg _,za a,hlt a,zf (zdN n),zg _,za a,hlt a,exC (ex0 n) none 0,by kernel_rfl,?_⟩;exact zp (v := .agg (exC (ex0 n) none 0).toArray) k78 i (zW _ _ _) zbP (zcI _ _ _) ⟨exC (ex0 n) none 0,zW _ _ _,za (zn i),rfl,zk e (by omega) _⟩
end
structure PathB (locs:Nat) (P:PathD):Prop where
 ev:P.ev.length<=24
 loc:∀e∈P.ev,e.k=1\/e.k=2->e.l.toNat<locs
 dt:∀p∈P.data,p.1<P.ev.length/\p.2<P.ev.length
 ct:∀p∈P.ctrl,p.1<P.ev.length/\p.2<P.ev.length
 rm:∀p∈P.rmw,p.1<P.ev.length/\p.2<P.ev.length
 dtl:P.data.length<=100000
 ctl:P.ctrl.length<=100000
 rml:P.rmw.length<=100000
structure PthS (B:Nat) (w:Wd) (x:zep):Prop where
 lt:∀a,x.2.2.1.1=some a\/x.2.2.2.1.1=some a\/x.2.2.2.2.1=some a->a.block<B
 ev:SlR evE w x.2.1.1 x.1.ev
 dt:SlR prE w x.2.2.1.1 x.1.data
 ct:SlR prE w x.2.2.2.1.1 x.1.ctrl
 rm:SlR prE w x.2.2.2.2.1 x.1.rmw
theorem PthS.below{B:Nat}{w X:Wd}{x:zep}(h:PthS B w x)(hb:Bw w X):PthS B X x:=⟨h.lt,h.ev.below hb,h.dt.below hb,h.ct.below hb,h.rm.below hb⟩
theorem z7:∀(vs:List UInt8) (l:Nat),(qG l vs).length=vs.length
 | [],_=>rfl
 | v::vs,l=>by
  show(qG (l+1) vs).length+1=vs.length+1;rw[z7 vs]
theorem zbj:∀(vs:List UInt8) (l:Nat) {k:Nat} (h:k<vs.length),(qG l vs)[k]?=some ⟨-1,2,UInt8.ofNat (l+k),vs[k],0,0,0⟩
 | [],_,_,h=>by cases h
 | v::vs,l,0,_=>rfl
 | v::vs,l,k+1,h=>by
  show(qG (l+1) vs)[k]?=_;rw[zbj vs (l+1) (Nat.lt_of_succ_lt_succ h),UB,UJ 1 k];rfl
theorem zmL{vs:List UInt8}{k:Nat}(h:k<vs.length):(qG 0 vs).take (k+1)=(qG 0 vs).take k++[⟨-1,2,UInt8.ofNat k,vs[k],0,0,0⟩]:=by
 have a:k<(qG 0 vs).length:=by rw[z7];exact h
 have:=zbj vs 0 h;rw[gE a,UQ] at this;rw[tsg a,Uc this]
theorem zh6(n:Nat)(Ps:List PathD):n<=Ps.foldl (fun n P=>n+P.ev.length) n:=by
 induction Ps generalizing n with
 | nil=>exact UW _
 | cons P Ps ih=>exact UL (Qv _ _) (ih (n+P.ev.length))
theorem zyb{B c:Nat}{V1:Wd}{p:OA}{l:List Ev}{y:Ev}{a:Addr}(ho:OwnS evE 80 B V1 p c l)(ha:zI V1 a ([y].flatMap evE.enc))(hB:B<=V1.heap.size)(hl:l.length<=100000){K:Value->Wd->Prop}
  (h:∀p' c' w',OwnS evE 80 B w' p' c' (l++[y])->V1.grownBy w' (p.map Addr.block)->(∀a,p'=some a->p=some a\/a.block=V1.heap.size)->K (.slice p' (l++[y]).length c') w') :
  SatR ((Builtin.append_ #[72,72] 72 #[.slice p l.length c,.slice (some a) 1 1]).run PG V1) K :=
 jG (E:=evE) (T:=80) (B:=B) (l:=l) (news:=[y]) (cap:=c) (m:=1) Tryz.underlying72 k80 rfl rfl rfl ho rfl ha hB (by omega) (by show(l.length+1)*16<=_;omega) fun p' c' w' d b _ e=>h p' c' w' d (by rw[za4] at b;exact b) e
theorem zsg{f g:Nat->UInt8}:∀{k:Nat},k<4->(seg 32 (fun i=>u8 (f i))).take (k*8)++seg 8 (fun i=>u8 (g i))++(seg 32 (fun i=>u8 (f i))).drop (k*8+8)=seg 32 (fun i=>u8 (if i/8=k then g (i%8) else f i))
 | 0,_=>by kernel_rfl
 | 1,_=>by kernel_rfl
 | 2,_=>by kernel_rfl
 | 3,_=>by kernel_rfl
 | k+4,h=>by omega
theorem zmp{A Z l r:List Value}{n o m:Nat}(hA:A.length=n)(hl:o+m<=l.length)(hr:r.length=m):(A++(l++Z)).take (n+o)++r++(A++(l++Z)).drop (n+o+m)=A++((l.take o++r++l.drop (o+m))++Z):=by
 subst hA;rw[List.take_length_add_append,Jg (by omega),UB,Jj,Je hl];simp only[KN]
theorem ztX(k:Nat)(P:PathD)(Ps:List PathD)(x:ExD):asR k (P::Ps) x=asR (k+1) Ps (zbY x k P):=rfl
theorem zqo{k:Nat}{l:List Ev}{j:Nat}(h:j<l.length):jH k (l.take (j+1))=jH k (l.take j)++[{ l[j] with th:=k }]:=by
 rw[tsg h];unfold jH;rw[QM];rfl
theorem zc6{n f:Nat}{ps:List (Nat×Nat)}(h:∀p∈ps,p.1<n/\p.2<n)(hf:f+n<=48):zsw f ps:=fun p a=>⟨by have:=(h p a).1;omega,by have:=(h p a).2;omega⟩
def zyh (B:Nat) (w:Wd) (vs:List Value) (m:MixD):Prop :=
 ∃(q p1 p2 p3:OA) (c c1 c2 c3:Nat) (xs ys:List zbk),vs=exC m.base q c++[.slice p1 m.rs.length c1,.slice p2 xs.length c2,.slice p3 ys.length c3]/\OwnS evE 80 B w q c m.base.ev /\
  OwnS zF 3 B w p1 c1 (m.rs.map (·.1))/\xs.map (·.1)=m.rs.map (·.2)/\OwnS jt 89 B w p2 c2 xs/\(∀y∈xs,OwnS zF 3 B w y.2.1 y.2.2 y.1) /\
   ys.map (·.1)=m.wr/\OwnS jt 89 B w p3 c3 ys/\∀y∈ys,OwnS zF 3 B w y.2.1 y.2.2 y.1
section
variable{w:Wd}{bP cl cp ci:Nat}{pc:List Value}{pl pp pi:OA}{init:List UInt8}{Ps:List zep}
theorem zoK(fP:w.heap[bP]?=some (.cells pc.toArray 29 (0,0)))(h1:pc[1]?=some (.slice pl init.length cl))(h2:pc[2]?=some (.slice pi init.length ci))(hi:SlR zS w pi init)(hi6:init.length<=6)
  (hP:SlR j7 w pp Ps) (hPs:∀x∈Ps,PthS w.heap.size w x) (hPb:∀x∈Ps,PathB init.length x.1) (hP4:Ps.length<=4) :
  Calls PG 66 #[At0 bP,.slice pp Ps.length cp] w fun e w'=>(∃vs,match ziI init (Ps.map (·.1)) with
   | some m=>e = .returned (.tuple #[.agg vs.toArray,.bool true])/\zyh w.heap.size w' vs m
   | none=>e = .returned (.tuple #[.agg vs.toArray,.bool false])/\vs=zdP)/\Bw w w':=by
 refine qA 143 [At0 bP,.slice pp Ps.length cp] (.c .p (.s .p (.c .p (.s .p (.s .p (.c .p (.c .p (.c .p (.c .p (.c .p .p)))))))))) Tryz.func66 ?_;obtain⟨L,hL⟩:=nm (w.heap.size);obtain⟨N,hN⟩:=nm (zb1 init.length (Ps.map (·.1)));have df:=hlt fP;refine⟨Unit,fun _=>⟨[(0,At0 bP),(1,.slice pp Ps.length cp),(4,At0 L)],[]⟩,fun _ X=>X.heap[L]?=some (.cells (zdP).toArray 92 (0,0))/\Bw w X,?_,?_⟩
 ·exact⟨(),⟨.cons rfl (.cons rfl (.cons (by rw[hL];rfl) .nil)),rfl⟩,by rw[hL];exact zt w _,(zba w _)⟩
 rintro _ X ⟨t,b⟩;have bc:∀{X:Wd},Bw w X->∀{i:Nat} {v:Value},pc[i]?=some v->X.cell? ⟨bP,0+i,none⟩=some v:=fun{X} hb {i v} h=>zc (za ((hb.block bP df).trans fP)) (by simpa using h);refine⟨_,bc b h1,Unit,fun _=>⟨[(0,At0 bP),(1,.slice pp Ps.length cp),(4,At0 L),(6,i64 N)],[]⟩,fun _ X=>X.heap[L]?=some (.cells (zdP).toArray 92 (0,0))/\Bw w X,?_,?_⟩
 ·refine⟨Nat×Nat,fun s=>⟨[(0,At0 bP),(1,.slice pp Ps.length cp),(4,At0 L),(6,i64 (s.2:Nat)),(23,.slice pp Ps.length cp),(24,i64 Ps.length),(25,i64 (s.1:Nat))],[]⟩,
   fun s Y=>s.1<=Ps.length/\s.2<=init.length+24*s.1/\((Ps.map (·.1)).drop s.1).foldl (fun n P=>n+P.ev.length) s.2=N/\Y.heap[L]?=some (.cells (zdP).toArray 92 (0,0))/\Bw w Y,fun s=>Ps.length-s.1,(0,init.length),
   (cvE rfl rfl),⟨UZ _,UW _,hN.symm,t,b⟩,?_⟩
  clear t b;rintro⟨k,n⟩ Y ⟨hk,hn,g,t,d⟩;dsimp only at hk hn g ⊢;refine biE (fun hc=>?_) fun hc=>?_
  ·have hc:(k:Int)<(Ps.length:Int):=dT hc;have ab:k<Ps.length:=by omega
   obtain⟨x,hx⟩:∃x,Ps[k]=x:=⟨_,rfl⟩;have d8:x∈Ps:=by rw[<- hx];exact gM ab
   have bf:(Ps.map (·.1)).drop k=x.1::(Ps.map (·.1)).drop (k+1):=by
    rw[<- JD (show k<(Ps.map (·.1)).length by simpa using ab)];simp[hx]
   rw[bf] at g;have en:=(hPb x d8).ev;obtain⟨bp,op,rfl,bd,a0⟩:=hP.at ab;refine⟨k,rfl,ab,j7.enc x,j7.len x,by rw[<- hx];exact zw d (a0 k ab),nL bd d.size,zo (X:=Y) (v := .agg (j7.enc x).toArray) zq7 (j7.len x) rfl (Qg.2 fun u hu=>j7.one x u hu) fun Z af fZ sZ=>?_⟩;have fZ:Z.heap[Y.heap.size]?=some (.cells (j7.enc x).toArray 145 (0,0)):=fZ;exact⟨.slice x.2.1.1 x.1.ev.length x.2.1.2,zc (za fZ) (i:=0) rfl,((n+x.1.ev.length:Nat):Int),(ze (by omega)).trans (by omega),nxI (by omega) ⟨(k+1,n+x.1.ev.length),(cvE rfl rfl),⟨ab,by show n+x.1.ev.length<=init.length+24*(k+1);omega,g,zb af t,(zst d af)⟩,zdc (by omega)⟩⟩
  ·have hc:¬(k:Int)<(Ps.length:Int):=dF hc;rw[Jz (by rw[QJ];omega)] at g;have g:n=N:=g;subst g;exact⟨(),(cvE rfl rfl),t,d⟩
 clear t b;rintro _ X ⟨t,b⟩;have cw:ziI init (Ps.map (·.1))=if N<=48 then some (zat (zak init (Ps.map (·.1))) init.length) else none:=by rw[hN];rfl
 have b9:=hlt t;refine biE (fun h=>?_) fun h=>?_
 ·have h:(48:Int)<(N:Nat):=dT h;rw[cw,Gm (by omega)];refine⟨zdP,by kernel_rfl,?_⟩;exact zp (v := .agg (zdP).toArray) k92 t jY jY (by kernel_rfl) ⟨zdP,jY,za (zn t),⟨_,rfl,rfl⟩,zk b (by omega) _⟩
 have h:¬(48:Int)<(N:Nat):=dF h;have cz:N<=48:=by omega
 rw[cw,Gn cz];refine cmo zvy ?_;rintro e Y ⟨rfl,d⟩;refine⟨exC (ex0 N) none 0++[qg,qg,qg],by kernel_rfl,?_⟩;refine zo (X:=Y) (v := .agg (exC (ex0 N) none 0++[qg,qg,qg]).toArray) k92 (by show(exC (ex0 N) none 0++[qg,qg,qg]).length=_;rw[lap,zW];rfl) jY (by show(exC (ex0 N) none 0++[qg,qg,qg]).all _=true;rw[QF,zcI];rfl) fun V ae fV sV=>⟨Nat,fun M=>⟨[(0,At0 bP),(1,.slice pp Ps.length cp),(4,At0 L),(9,At0 M),(10,At0 M)],[]⟩,fun M X=>L<M/\zbM X M (ex0 N) none 0 [qg,qg,qg]/\X.heap[L]?=some (.cells (zdP).toArray 92 (0,0))/\Bw w X,?_,?_⟩
 ·exact⟨Y.heap.size,(cvE rfl rfl),by have:=d.size;omega,fV,zb ae (zb d t),((zst b d)).trans (ae.mono (by have:=b.size;have:=d.size;omega))⟩
 clear fV sV ae V d Y;clear t b b9;rintro M X ⟨ef,fM,t,b⟩;dsimp only at fM ⊢;refine⟨OA×Nat,fun _=>⟨[(0,At0 bP),(1,.slice pp Ps.length cp),(4,At0 L),(9,At0 M),(10,At0 M)],[]⟩,fun s X=>zbM X M { ex0 N with ev:=qG 0 init } s.1 s.2 [qg,qg,qg]/\OwnS evE 80 w.heap.size X s.1 s.2 (qG 0 init)/\X.heap[L]?=some (.cells (zdP).toArray 92 (0,0))/\Bw w X,?_,?_⟩
 ·refine⟨_,bc b h2,?_⟩;refine⟨Nat×OA×Nat,fun s=>⟨[(0,At0 bP),(1,.slice pp Ps.length cp),(4,At0 L),(9,At0 M),(10,At0 M),(45,.slice pi init.length ci),(46,i64 init.length),(47,i64 (s.1:Nat))],[]⟩,
   fun s Y=>s.1<=init.length/\zbM Y M { ex0 N with ev:=(qG 0 init).take s.1 } s.2.1 s.2.2 [qg,qg,qg]/\OwnS evE 80 w.heap.size Y s.2.1 s.2.2 ((qG 0 init).take s.1)/\Y.heap[L]?=some (.cells (zdP).toArray 92 (0,0))/\Bw w Y,fun s=>init.length-s.1,(0,none,0),
   (cvE rfl rfl),⟨UZ _,fM,OwnS.nil,t,b⟩,?_⟩
  clear fM t b;rintro⟨k,q,c⟩ Y ⟨hk,fM,ho,t,d⟩;dsimp only at hk fM ho ⊢;refine biE (fun hc=>?_) fun hc=>?_
  ·have hc:(k:Int)<(init.length:Int):=dT hc;have ab:k<init.length:=by omega
   obtain⟨bi,oi,rfl,ek,a0⟩:=hi.at ab;have a2:=zmL ab;have ei:((qG 0 init).take k).length=k:=by rw[Qr,z7];omega
   refine⟨k,rfl,ab,u8 init[k],zc (zw d (a0 k ab)) (i:=0) rfl,_,zdB fM,_,w8N k,?_⟩;obtain⟨e,he⟩:∃e:Ev,e=⟨-1,2,UInt8.ofNat k,init[k],0,0,0⟩:=⟨_,rfl⟩;refine⟨evE.enc e,by rw[he];rfl,?_⟩;refine⟨⟨by decide,by decide,rfl⟩,evE.enc e,zbs rfl rfl,?_⟩;obtain⟨Y1,ai⟩:=nm (Y.alloc (.cells (evE.enc e).toArray 80));have ac:Bw Y Y1:=by rw[ai];exact(zba _ _)
   have sY:=d.size;have an:=ho.below ac;unfold zd1 zaN;show SatR _ _;rw[<- ai];refine zyb an (by rw[ai];exact q9 evE e) (by have:=ac.size;omega) (by omega) fun q1 c1 U oU gU bx=>?_;have az:=qK (zb ac fM) an (by decide) gU;have ao:=qK (zb ac t) an (by decide) gU;refine zm k72 az (o:=0+0) (v := .slice q1 ((qG 0 init).take k++[e]).length c1) rfl rfl (by rw[lap,zW];decide) rfl fun S fS gS sS=>?_;rw[show 0+0=0 from rfl,zwp,he,<- a2] at fS;refine nxI (by omega) ⟨(k+1,q1,c1),(cvE rfl rfl),⟨ab,fS,by rw[he,<- a2] at oU;exact qN oU az (by decide) gS,(gS.block L (hlt ao) (by simp;omega)).trans ao,?_⟩,zdc (by omega)⟩;have sU:=gU.size;have s1:=ac.size;exact((d.trans (ac.mono sY)).trans (jo an (by omega) (UW _) gU)).trans (zl gS (by omega) (by omega))
  ·have hc:¬(k:Int)<(init.length:Int):=dF hc;obtain rfl:k=init.length:=by omega
   have e:(qG 0 init).take init.length=qG 0 init:=JE (by rw[z7];exact UW _);rw[e] at fM ho;exact⟨(q,c),(cvE rfl rfl),fM,ho,t,d⟩
 clear fM t b;rintro⟨q,c⟩ X ⟨fM,ho,t,b⟩;dsimp only at fM ho ⊢;obtain⟨x0,a3⟩:∃x0:ExD,x0={ ex0 N with ev:=qG 0 init }:=⟨_,rfl⟩;have aw:x0.ev=qG 0 init:=by rw[a3]
 rw[<- a3] at fM;rw[<- aw] at ho;refine⟨OA×Nat,fun _=>⟨[(0,At0 bP),(1,.slice pp Ps.length cp),(4,At0 L),(9,At0 M),(10,At0 M)],[]⟩,fun s X=>zbM X M (asR 0 (Ps.map (·.1)) x0) s.1 s.2 [qg,qg,qg]/\OwnS evE 80 w.heap.size X s.1 s.2 (asR 0 (Ps.map (·.1)) x0).ev/\(asR 0 (Ps.map (·.1)) x0).ev.length=N/\(∀e∈(asR 0 (Ps.map (·.1)) x0).ev,e.k=1\/e.k=2->e.l.toNat<init.length)/\X.heap[L]?=some (.cells (zdP).toArray 92 (0,0))/\Bw w X,?_,?_⟩
 ·refine⟨Nat×ExD×OA×Nat,fun s=>⟨[(0,At0 bP),(1,.slice pp Ps.length cp),(4,At0 L),(9,At0 M),(10,At0 M),(66,.slice pp Ps.length cp),(67,i64 Ps.length),(68,i64 (s.1:Nat))],[]⟩,
   fun s Y=>s.1<=Ps.length/\asR s.1 ((Ps.map (·.1)).drop s.1) s.2.1=asR 0 (Ps.map (·.1)) x0/\((Ps.map (·.1)).drop s.1).foldl (fun n P=>n+P.ev.length) s.2.1.ev.length=N/\(zK s.2.1.dt.to/\zK s.2.1.ct.to/\zK s.2.1.rm.to)/\(∀e∈s.2.1.ev,e.k=1\/e.k=2->e.l.toNat<init.length) /\
    zbM Y M s.2.1 s.2.2.1 s.2.2.2 [qg,qg,qg]/\OwnS evE 80 w.heap.size Y s.2.2.1 s.2.2.2 s.2.1.ev/\Y.heap[L]?=some (.cells (zdP).toArray 92 (0,0))/\Bw w Y,fun s=>Ps.length-s.1,(0,x0,q,c),
   (cvE rfl rfl),⟨UZ _,rfl,by rw[hN,aw,z7];rfl,?_,?_,fM,ho,t,b⟩,?_⟩
  ·rw[a3];exact⟨fun i _=>(by decide:0<2^64),fun i _=>(by decide:0<2^64),fun i _=>(by decide:0<2^64)⟩
  ·intro e he _;rw[aw] at he;obtain⟨j,hj⟩:=List.mem_iff_getElem?.1 he;have ag:j<init.length:=by
    have:=(Jr.1 hj).1
    rwa [z7] at this
   rw[zbj init 0 ag] at hj;rw[<- Uc hj];show(UInt8.ofNat (0+j)).toNat<init.length;have:=znI (n:=0+j) (by omega);omega
  clear fM ho t b;rintro⟨k,x,q,c⟩ Y ⟨hk,g,aa,⟨bq,bn,bm⟩,ad,fM,ho,t,d⟩;dsimp only at hk g aa bq bn bm ad fM ho ⊢;refine biE (fun hc=>?_) fun hc=>?_
  ·have hc:(k:Int)<(Ps.length:Int):=dT hc;have ab:k<Ps.length:=by omega
   obtain⟨y,hy⟩:∃y,Ps[k]=y:=⟨_,rfl⟩;have ay:y∈Ps:=by rw[<- hy];exact gM ab
   have bf:(Ps.map (·.1)).drop k=y.1::(Ps.map (·.1)).drop (k+1):=by
    rw[<- JD (show k<(Ps.map (·.1)).length by simpa using ab)];simp[hy]
   rw[bf] at g aa;rw[ztX] at g;have aa:((Ps.map (·.1)).drop (k+1)).foldl (fun n P=>n+P.ev.length) (x.ev.length+y.1.ev.length)=N:=aa;have de:=zh6 (x.ev.length+y.1.ev.length) ((Ps.map (·.1)).drop (k+1));rw[aa] at de;obtain⟨eh,b3,b6,b8,b7,dh,d4,d7⟩:=hPb y ay;obtain⟨bp,op,rfl,bd,a0⟩:=hP.at ab;refine⟨k,rfl,ab,j7.enc y,j7.len y,by rw[<- hy];exact zw d (a0 k ab),nL bd d.size,zo (X:=Y) (v := .agg (j7.enc y).toArray) zq7 (j7.len y) rfl (Qg.2 fun u hu=>j7.one y u hu) fun Z af fZ sZ=>?_⟩;obtain⟨D,hD⟩:=nm (Y.heap.size);have fD:Z.heap[D]?=some (.cells (j7.enc y).toArray 145 (0,0)):=by rw[hD];exact fZ
   have eg:M<D:=by rw[hD];exact hlt fM
   have eD:At0 Y.heap.size=At0 D:=by rw[hD]
   have bg:=zb af fM;have cs:=zb af t;have b5:=ho.below af;have b4:=zst d af;refine⟨_,zdB bg,.slice y.2.1.1 y.1.ev.length y.2.1.2,by rw[<- hD];exact zc (za fD) (i:=0) rfl,?_⟩;refine⟨Nat×OA×Nat,fun s=>⟨[(0,At0 bP),(1,.slice (some ⟨bp,op,none⟩) Ps.length cp),(4,At0 L),(9,At0 M),(10,At0 M),(13,i64 (k:Nat)),(14,At0 D),(15,i64 x.ev.length),(66,.slice (some ⟨bp,op,none⟩) Ps.length cp),(67,i64 Ps.length),(68,i64 (k:Nat)),(79,.slice y.2.1.1 y.1.ev.length y.2.1.2),(80,i64 y.1.ev.length),(81,i64 (s.1:Nat))],[]⟩,
    fun s V=>s.1<=y.1.ev.length/\zbM V M { x with ev:=x.ev++jH k (y.1.ev.take s.1) } s.2.1 s.2.2 [qg,qg,qg]/\OwnS evE 80 w.heap.size V s.2.1 s.2.2 (x.ev++jH k (y.1.ev.take s.1))/\V.heap[L]?=some (.cells (zdP).toArray 92 (0,0))/\V.heap[D]?=some (.cells (j7.enc y).toArray 145 (0,0))/\Bw w V,fun s=>y.1.ev.length-s.1,(0,q,c),
    ⟨.cons rfl (.cons rfl (.cons rfl (.cons rfl (.cons rfl (.cons rfl (.cons (Gi some eD) (.cons rfl (.cons rfl (.cons rfl (.cons rfl (.cons rfl (.cons rfl (.cons rfl .nil))))))))))))),rfl⟩,⟨UZ _,by show zbM Z M { x with ev:=x.ev++[] } q c _;rw[QG];exact bg,by show OwnS _ _ _ Z q c (x.ev++[]);rw[QG];exact b5,cs,fD,b4⟩,?_⟩
   clear bg cs b5 b4 fZ sZ af fM ho t d;rintro⟨j,q,c⟩ V ⟨hj,fM,ho,t,fD,ae⟩;dsimp only at hj fM ho ⊢;have sV:=ae.size;have hS:=(hPs y ay).below ae;refine biE (fun hc=>?_) fun hc=>?_
   ·have hc:(j:Int)<(y.1.ev.length:Int):=dT hc;have ag:j<y.1.ev.length:=(by omega);obtain⟨e,he⟩:∃e,y.1.ev[j]=e:=⟨_,rfl⟩;have a2:=zqo (k:=k) ag;rw[he] at a2;obtain⟨be,oe,dl,dk,ca⟩:=hS.ev.at ag;rw[dl];refine⟨j,rfl,ag,evE.enc e,rfl,by rw[<- he];exact ca j ag,dk,?_⟩;refine zo (X:=V) (v := .agg (evE.enc e).toArray) k80 rfl rfl (Qg.2 fun u hu=>evE.one e u hu) fun T ea fT sT=>?_;have fT:T.heap[V.heap.size]?=some (.cells (evE.enc e).toArray 80 (0,0)):=fT;refine zm k3 fT (o:=0+0) (v:=i64 (k:Nat)) rfl rfl (by show 0<7;decide) rfl fun T2 bl d2 eo=>?_;obtain⟨e2,cr⟩:∃e2:Ev,e2={ e with th:=k }:=⟨_,rfl⟩;have bl:T2.heap[V.heap.size]?=some (.cells (evE.enc e2).toArray 80 (0,0)):=(by rw[cr];exact bl);have al:Bw V T2:=ea.trans (zl d2 (by omega) (UW _));have ax:=zb al fM;have bz:=hdr bl;have hd:Bw T2 T2.drew:=(Gb _ T2).drew;have d6:(x.ev++jH k (y.1.ev.take j)).length<=48:=by
     unfold jH;rw[lap,QJ,Qr];omega
    have bu:=ho.below al;refine DrawE.ord [7,10] [0,1,2,3,4,5,6,7,8,9,10] (by kernel_rfl) ⟨_,zdB (hdr ax),evE.enc e2,rfl,za bz,hlt bz,⟨by decide,by decide,rfl⟩,evE.enc e2,zbs rfl rfl,?_⟩;obtain⟨Y1,ai⟩:=nm (T2.drew.alloc (.cells (evE.enc e2).toArray 80));have ac:Bw T2 Y1:=(by rw[ai];exact hd.trans ((Gb T2.drew.heap.size _).alloc (UW _) _));refine⟨(zba _ _),?_⟩;have sT:=al.size;have s1:=ac.size;have ah:=bu.below ac;unfold zod zaN;show SatR _ _;rw[<- ai];refine zyb ah (by rw[ai];exact q9 evE e2) (by omega) (by omega) fun q1 c1 U oU gU bx=>?_;have az:=qK (zb ac ax) ah (by decide) gU;have ao:=qK (zb (al.trans (ac.mono sT)) t) ah (by decide) gU;have cb:=qK (zb (al.trans (ac.mono sT)) fD) ah (by decide) gU;refine zm k72 az (o:=0+0) (v := .slice q1 ((x.ev++jH k (y.1.ev.take j))++[e2]).length c1) rfl rfl (by rw[lap,zW];decide) rfl fun S fS gS sS=>?_;have a6:(x.ev++jH k (y.1.ev.take j))++[e2]=x.ev++jH k (y.1.ev.take (j+1)):=(by rw[a2,cr,KN]);rw[show 0+0=0 from rfl,zwp,a6] at fS;refine nxI (by omega) ⟨(j+1,q1,c1),(cvE rfl rfl),⟨ag,fS,by rw[a6] at oU;exact qN oU az (by decide) gS,(gS.block L (hlt ao) (by simp;omega)).trans ao,(gS.block D (hlt cb) (by simp;omega)).trans cb,?_⟩,zdc (by omega)⟩;have sU:=gU.size;exact((ae.trans ((al.trans (ac.mono sT)).mono sV)).trans (jo ah (by omega) (UW _) gU)).trans (zl gS (by omega) (by omega))
   ·have hc:¬(j:Int)<(y.1.ev.length:Int):=dF hc;obtain rfl:j=y.1.ev.length:=(by omega);rw[Qt] at fM ho;obtain⟨x1,am⟩:∃x1:ExD,x1={ x with ev:=x.ev++jH k y.1.ev }:=⟨_,rfl⟩;rw[<- am] at fM;have da:=fM;have dc:=ho;have cj:=t;have bk:=fD;have c7:=ae;have c8:=hS;obtain⟨x2,a4⟩:∃z:ExD,z={ x1 with dt:=zn6 x.ev.length y.1.data x.dt }:=⟨_,rfl⟩;obtain⟨A1,Z1,dq,b0⟩:=zpR x1 q c [qg,qg,qg];have aq:x1.dt=x.dt:=(by rw[am]);have du:RelAt V M 148 92 A1 Z1 x.dt:=⟨dq,by
     have h:=b0 x1.dt;rw[aq] at h;rw[<- h,<- aq];exact da⟩
    have b1:Bw V V.drew:=(Gb _ _).drew;refine DrawE.ord [6] [0,1,2,3,4,5,6] (by kernel_rfl) ⟨.slice y.2.2.1.1 y.1.data.length y.2.2.1.2,zc (za (hdr bk)) (i:=1) rfl,cmo (zsv (f:=x.ev.length) (du.same (Y:=V.drew) rfl) bq ((c8.dt).below b1) (fun a ha=>by have:=c8.lt a (.inl ha);omega) dh (zc6 b6 (by omega))) ?_⟩;rintro e V1 ⟨rfl,cv,dy⟩;have g1:V.grownBy V1 (some M):=zd (zi b1) dy;have ee:=g1.size;have cn:zbM V1 M x2 q c [qg,qg,qg]:=by
     have h:=cv.cells;rw[<- b0] at h;rw[a4];exact h
    have an:=qN dc da (by decide) g1;have b2:=(g1.block L (hlt cj) (by simp;omega)).trans cj;have bo:=(g1.block D (hlt bk) (by simp;omega)).trans bk;have ac:Bw w V1:=c7.trans (zl g1 c7.size (by omega));have ck:=(hPs y ay).below ac;obtain⟨x3,bj⟩:∃z:ExD,z={ x2 with ct:=zn6 x.ev.length y.1.ctrl x.ct }:=⟨_,rfl⟩;obtain⟨A2,Z2,d1,c0⟩:=zpS x2 q c [qg,qg,qg];have ap:x2.ct=x.ct:=(by rw[a4];rw[am]);have d9:RelAt V1 M 197 92 A2 Z2 x.ct:=⟨d1,by
     have h:=c0 x2.ct;rw[ap] at h;rw[<- h,<- ap];exact cn⟩
    have db:Bw V1 V1.drew:=(Gb _ _).drew;refine DrawE.ord [6] [0,1,2,3,4,5,6] (by kernel_rfl) ⟨.slice y.2.2.2.1.1 y.1.ctrl.length y.2.2.2.1.2,zc (za (hdr bo)) (i:=2) rfl,cmo (zsv (f:=x.ev.length) (d9.same (Y:=V1.drew) rfl) bn ((ck.ct).below db) (fun a ha=>by have:=ck.lt a (.inr (.inl ha));omega) d4 (zc6 b8 (by omega))) ?_⟩;rintro e V2 ⟨rfl,c9,dj⟩;have g2:V1.grownBy V2 (some M):=zd (zi db) dj;have em:=g2.size;have ax:zbM V2 M x3 q c [qg,qg,qg]:=by
     have h:=c9.cells;rw[<- c0] at h;rw[bj];exact h
    have bu:=qN an cn (by decide) g2;have cd:=(g2.block L (hlt b2) (by simp;omega)).trans b2;have br:=(g2.block D (hlt bo) (by simp;omega)).trans bo;have bt:Bw w V2:=ac.trans (zl g2 ac.size (by omega));have ce:=(hPs y ay).below bt;obtain⟨x4,c5⟩:∃z:ExD,z={ x3 with rm:=zn6 x.ev.length y.1.rmw x.rm }:=⟨_,rfl⟩;obtain⟨A3,Z3,eb,cg⟩:=zpP x3 q c [qg,qg,qg];have a1:x3.rm=x.rm:=(by rw[bj];rw[a4];rw[am]);have dm:RelAt V2 M 246 92 A3 Z3 x.rm:=⟨eb,by
     have h:=cg x3.rm;rw[a1] at h;rw[<- h,<- a1];exact ax⟩
    have cu:Bw V2 V2.drew:=(Gb _ _).drew;refine DrawE.ord [6] [0,1,2,3,4,5,6] (by kernel_rfl) ⟨.slice y.2.2.2.2.1 y.1.rmw.length y.2.2.2.2.2,zc (za (hdr br)) (i:=3) rfl,cmo (zsv (f:=x.ev.length) (dm.same (Y:=V2.drew) rfl) bm ((ce.rm).below cu) (fun a ha=>by have:=ce.lt a (.inr (.inr ha));omega) d7 (zc6 b7 (by omega))) ?_⟩;rintro e V3 ⟨rfl,c4,d3⟩;have g3:V2.grownBy V3 (some M):=zd (zi cu) d3;have el:=g3.size;have cy:zbM V3 M x4 q c [qg,qg,qg]:=by
     have h:=c4.cells;rw[<- cg] at h;rw[c5];exact h
    have ah:=qN bu ax (by decide) g3;have bw:=(g3.block L (hlt cd) (by simp;omega)).trans cd;have c6:=(g3.block D (hlt br) (by simp;omega)).trans br;have a9:Bw w V3:=bt.trans (zl g3 bt.size (by omega));have ej:=(hPs y ay).below a9;have ds:zbY x k y.1={ x4 with regs:=fun i=>if i/8=k then y.1.regs (i%8) else x4.regs i }:=(by rw[c5,bj,a4,am];rfl);obtain⟨A5,Z5,bh,au⟩:=zvr x4 q c [qg,qg,qg];have ar:exC x4 q c++[qg,qg,qg]=A5++(seg 32 (fun i=>u8 (x4.regs i))++Z5):=au x4.regs;have bb:V3.heap[M]?=some (.cells (A5++(seg 32 (fun i=>u8 (x4.regs i))++Z5)).toArray 92 (0,0)):=(by rw[<- ar];exact cy);have cf:((j7.enc y).drop 4).take 8=seg 8 (fun i=>u8 (y.1.regs i)):=JE (by rw[Qq,j7.len];decide);refine DrawE.ord [8] [0,1,2,3,4,5,6,7,8] (by kernel_rfl) ⟨seg 8 (fun i=>u8 (y.1.regs i)),zB _ _,by rw[<- cf];have:=zP (n:=4) (m:=8) (za (hdr c6));exact this,hlt (hdr c6),k,rfl,by omega,?_⟩;refine zad k48 (hdr bb) (o:=295+k*8) (v := .agg (seg 8 (fun i=>u8 (y.1.regs i))).toArray) (zB _ _) (by show 295+k*8+(seg 8 _).length<=(A5++(seg 32 _++Z5)).length;rw[<- ar,lap,zW,zB];show _<=336;omega) (zb7 fun _=>rfl) fun S fS gS sS=>?_;obtain⟨x5,ak⟩:=nm (zbY x k y.1);have fS:zbM S M x5 q c [qg,qg,qg]:=by
     refine fS.trans ?_;have e1:=zmp (A:=A5) (Z:=Z5) (l:=seg 32 (fun i=>u8 (x4.regs i))) (r:=seg 8 (fun i=>u8 (y.1.regs i))) (o:=k*8) (m:=8) bh (by rw[zB];omega) (zB _ _);rw[zsg (by omega)] at e1;rw[ak,ds,au,<- e1];show some (Obj.cells ((A5++(seg 32 (fun i=>u8 (x4.regs i))++Z5)).take (295+k*8)++seg 8 (fun i=>u8 (y.1.regs i))++(A5++(seg 32 (fun i=>u8 (x4.regs i))++Z5)).drop (295+k*8+(seg 8 (fun i=>u8 (y.1.regs i))).length)).toArray _ _)=_;rw[zB]
    have dd:Bw V3 V3.drew:=(Gb _ _).drew;have g4:V3.grownBy S (some M):=zd (zi dd) gS;have aj:x5.ev=x.ev++jH k y.1.ev:=(by rw[ak];rfl);have ec:x1.ev=x5.ev:=(by rw[am,aj]);have bv:x5.ev.length=x.ev.length+y.1.ev.length:=(by rw[aj,lap];unfold jH;rw[QJ]);refine nxI (by omega) ⟨(k+1,x5,q,c),(cvE rfl rfl),⟨ab,by rw[ak];exact g,by rw[bv];exact aa,?_,fun e he hk=>?_,fS,?_,(g4.block L (hlt bw) (by simp;omega)).trans bw,a9.trans (zl g4 a9.size (by omega))⟩,zdc (by omega)⟩
    ·rw[ak];exact⟨zfD bq (zc6 b6 (by omega)),zfD bn (zc6 b8 (by omega)),zfD bm (zc6 b7 (by omega))⟩
    ·have he:e∈x5.ev:=he;rw[aj] at he;rcases QN.1 he with he | he
     ·exact ad e he hk
     ·unfold jH at he;obtain⟨e',dw,rfl⟩:=UI.1 he;exact b3 e' dw hk
    ·show OwnS evE 80 w.heap.size S q c x5.ev;rw[aj];exact qN ah cy (by decide) g4
  ·have hc:¬(k:Int)<(Ps.length:Int):=dF hc;rw[Jz (by rw[QJ];omega)] at g aa;have g:x=asR 0 (Ps.map (·.1)) x0:=g;have aa:x.ev.length=N:=aa;rw[<- g];exact⟨(q,c),(cvE rfl rfl),fM,ho,aa,ad,t,d⟩
 clear fM ho t b;rintro⟨q,c⟩ X ⟨fM,ho,dp,ad,t,b⟩;dsimp only at fM ho ⊢;obtain⟨AX,cm⟩:=nm (asR 0 (Ps.map (·.1)) x0);rw[<- cm] at fM ho dp ad;obtain⟨BX,a5⟩:∃BX:ExD,BX={ AX with po:=poR AX.ev }:=⟨_,rfl⟩;have ba:zak init (Ps.map (·.1))=BX:=by
  rw[a5,cm,a3,hN];rfl
 rw[ba];refine⟨Unit,fun _=>⟨[(0,At0 bP),(1,.slice pp Ps.length cp),(4,At0 L),(9,At0 M),(10,At0 M)],[]⟩,fun _ X=>zbM X M BX q c [qg,qg,qg]/\OwnS evE 80 w.heap.size X q c BX.ev/\X.heap[L]?=some (.cells (zdP).toArray 92 (0,0))/\Bw w X,?_,?_⟩
 ·refine⟨_,zdB fM,cmo (zdX ho.row (by omega)) ?_⟩;rintro e Y ⟨rfl,d⟩;have cq:=zb d fM;obtain⟨A5,Z5,bh,au⟩:=zpQ AX q c [qg,qg,qg];have ar:exC AX q c++[qg,qg,qg]=A5++(zf AX.po++Z5):=au AX.po;have bb:Y.heap[M]?=some (.cells (A5++(zf AX.po++Z5)).toArray 92 (0,0)):=by rw[<- ar];exact cq
  refine zad k76 bb (o:=0+1) (v := .agg (zf (poR AX.ev)).toArray) (zg _) (by show 0+1+(zf _).length<=(A5++(zf AX.po++Z5)).length;rw[<- ar,lap,zW,zg];decide) (zH _) fun S fS gS sS=>?_;have fS:zbM S M BX q c [qg,qg,qg]:=by
   refine fS.trans ?_;have e1:=zmp (A:=A5) (Z:=Z5) (l:=zf AX.po) (r:=zf (poR AX.ev)) (o:=0) (m:=49) bh (by rw[zg];omega) (zg _);rw[a5,au];have e2:(zf AX.po).take 0++zf (poR AX.ev)++(zf AX.po).drop (0+49)=zf (poR AX.ev):=by
    rw[Um,QQ,Jz (by rw[zg];omega),QG]
   rw[e2] at e1;rw[<- e1];show some (Obj.cells ((A5++(zf AX.po++Z5)).take (0+1)++zf (poR AX.ev)++(A5++(zf AX.po++Z5)).drop (0+1+(zf (poR AX.ev)).length)).toArray _ _)=_;rw[zg]
  have b9:=hlt t;have a7:=zst b d;exact⟨(),(cvE rfl rfl),fS,by rw[a5];exact qN (ho.below d) cq (by decide) gS,(gS.block L (hlt (zb d t)) (by simp;omega)).trans (zb d t),a7.trans (zl gS a7.size (by omega))⟩
 have cx:BX.ev=AX.ev:=by rw[a5]
 clear fM ho t b;rintro _ X ⟨fM,ho,t,b⟩;refine⟨List Value,fun _=>⟨[(0,At0 bP),(1,.slice pp Ps.length cp),(4,At0 L),(9,At0 M),(10,At0 M)],[]⟩,fun vs X=>X.heap[M]?=some (.cells vs.toArray 92 (0,0))/\zyh w.heap.size X vs (zat BX init.length)/\X.heap[L]?=some (.cells (zdP).toArray 92 (0,0))/\Bw w X,?_,?_⟩
 ·refine⟨_,bc b h1,?_⟩;have dr:∀a,q=some a->a.block≠M:=fun a ha e=>by
   obtain⟨_,_,ed,h'⟩:=zz ho ha;rw[e,fM] at h';simp at h'
  refine cmo (zrt fM ho.row dr (by rw[cx];omega) (by omega) (by rw[cx];exact ad)) ?_;rintro e Y ⟨rfl,⟨p1,p2,p3,c1,c2,c3,xs,ys,fY,di,dv,dx,d0,dz,dn,d5⟩,gY⟩;have av:=b.size;refine⟨_,(cvE rfl rfl),fY,⟨q,p1,p2,p3,c,c1,c2,c3,xs,ys,rfl,qN ho fM (by decide) gY,di.lower av,dv,dx.lower av,fun y hy=>(d0 y hy).lower av,dz,dn.lower av,fun y hy=>(d5 y hy).lower av⟩,(gY.block L (hlt t) (by simp;omega)).trans t,b.trans (zl gY b.size (by omega))⟩
 clear fM ho t b;rintro vs X ⟨fM,hv,t,b⟩;have a8:vs.length=336:=by
  obtain⟨q,p1,p2,p3,c,c1,c2,c3,xs,ys,e,_⟩:=hv;rw[e,lap,zW];rfl
 have dg:vs.all Value.oneCell'=true:=by
  obtain⟨q,p1,p2,p3,c,c1,c2,c3,xs,ys,e,_⟩:=hv;rw[e,QF,zcI];rfl
 refine⟨vs,a8,za fM,hlt fM,zp (v := .agg vs.toArray) k92 t a8 jY dg ⟨vs,a8,za (zn t),⟨vs,rfl,?_⟩,zk b (by omega) _⟩⟩;obtain⟨q,p1,p2,p3,c,c1,c2,c3,xs,ys,e,k1,k2,k3,k4,k5,k6,k7,k8⟩:=hv;have kp:∀{α:Type} {E:Enc α} {T cc:Nat} {r:OA} {ll:List α},T≠92->OwnS E T w.heap.size X r cc ll->OwnS E T w.heap.size (X.setRow L vs.toArray) r cc ll:=fun{α E T cc r ll} hT h=>qN h t hT (qW X L _);exact⟨q,p1,p2,p3,c,c1,c2,c3,xs,ys,e,kp (by decide) k1,kp (by decide) k2,k3,kp (by decide) k4,fun y hy=>kp (by decide) (k5 y hy),k6,kp (by decide) k7,fun y hy=>kp (by decide) (k8 y hy)⟩
end
structure ExV (w:Wd) (x:ExD) (q:OA):Prop where
 ev:SlR evE w q x.ev
 n:x.ev.length<=20
 po:zK x.po.to
 rf:zK x.rf.to
 co:zK x.co.to
 dt:zK x.dt.to
 ct:zK x.ct.to
 rm:zK x.rm.to
structure ExW (w:Wd) (x:ExD) (q:OA):Prop where
 ev:SlR evE w q x.ev
 n:x.ev.length<=48
 w20:∀l,(qa x l).length<=20
 po:zK x.po.to
 rf:zK x.rf.to
 co:zK x.co.to
 dt:zK x.dt.to
 ct:zK x.ct.to
 rm:zK x.rm.to
theorem ExV.w{w:Wd}{x:ExD}{q:OA}(h:ExV w x q):ExW w x q:=by
 refine⟨h.ev,by have:=h.n;omega,fun l=>?_,h.po,h.rf,h.co,h.dt,h.ct,h.rm⟩;have a:(qa x l).length<=x.ev.length:=by
  refine UL (JK ..) ?_;rw[KU];exact UW _
 have:=h.n;omega
theorem ExW.below{w w2:Wd}{x:ExD}{q:OA}(h:ExW w x q)(hb:Bw w w2):ExW w2 x q:=⟨h.ev.below hb,h.n,h.w20,h.po,h.rf,h.co,h.dt,h.ct,h.rm⟩
theorem ExV.below{w w2:Wd}{x:ExD}{q:OA}(h:ExV w x q)(hb:Bw w w2):ExV w2 x q:=⟨h.ev.below hb,h.n,h.po,h.rf,h.co,h.dt,h.ct,h.rm⟩
theorem zcX{w:Wd}{q:OA}{l:List Ev}(h:SlR evE w q l){i:Nat}(hi:i<l.length):∃b o,q=some ⟨b,o,none⟩/\b<w.heap.size/\zI w ⟨b,o+i*7,none⟩ (evE.enc (l.getD i ev0)):=by
 obtain⟨b,o,c,d,a⟩:=h.at hi;refine⟨b,o,c,d,?_⟩;rw[gDe,gE hi];exact a i hi
theorem zyq:TyEq PG 73 false 1 1 (fun cs=>∃x,cs=[.int .u64 x]) := .int Tryz.underlying73 (fun w=>Tryz.isAgg73 w) (jc (by kernel_rfl) (by kernel_rfl)).1 (by kernel_rfl)
theorem zxU:TyEq PG 3 false 1 1 (fun cs=>∃x,cs=[.int .i64 x]) := .int Tryz.underlying3 (fun w=>Tryz.isAgg3 w) (jc (by kernel_rfl) (by kernel_rfl)).1 (by kernel_rfl)
theorem zxR:∃G,TyEq PG 74 true 48 2 G/\∀f:Nat->Nat,G (zbo f):=by
 refine⟨_,.array (m:=48) (by decide) Tryz.underlying74 (fun w=>Tryz.isAgg74 w) (jc (by kernel_rfl) (by kernel_rfl)).1 (by kernel_rfl) zyq,fun f i a=>⟨(f i:Nat),?_⟩⟩;unfold qr;have h:=zdy f a;rw[UX];have b:i<(zbo f).length:=by rw[zbQ];exact a
 rw[<- JD b,List.take_succ_cons,Um];rw[gE b] at h;rw[Uc h];rfl
theorem zxS:∃G,TyEq PG 76 true 49 3 G/\∀r:RelD,G (zf r):=by
 obtain⟨G,a,b⟩:=zxR;refine⟨_,.struct (uf Tryz.underlying76).1 (by kernel_rfl) (fun w=>Tryz.isAgg76 w) (jc (by kernel_rfl) (by kernel_rfl)).1 (by kernel_rfl)
  (by rw[(uf Tryz.underlying76).2];exact .cons (by decide) rfl (zxU.up 1) (.cons (by decide) rfl a .nil)),fun r=>?_⟩
 exact⟨⟨_,rfl⟩,by have:=b r.to;have e:((zf r).drop 1).take 48=zbo r.to:=JE (by rw[show(zf r).drop 1=zbo r.to from rfl,zbQ];decide);rw[e];exact this,trivial⟩
theorem zqJ{a b:RelD}:zf a=zf b↔jy a b=true:=by
 unfold jy;rw[bAT,dE,Qg];constructor
 ·intro h;have e:i64 a.n=i64 b.n:=Jv h;have d:zbo a.to=zbo b.to:=List.tail_eq_of_cons_eq h;refine⟨by injection e,fun i c=>Up ?_⟩;have c:=Ul.1 c;have g:=zdy a.to c;rw[d,zdy b.to c] at g;have f:=Uc g;unfold s64 at f;injection f with _ h5;omega
 ·rintro⟨e,d⟩;unfold zf zbo;rw[e];congr 1;refine Kl fun i c=>?_;rw[dT (d i c)]
theorem zpW(x y:Operand)(a b:RelD)(w:Wd):(do eqGuard .eql 76 x y (.agg (zf a).toArray) (.agg (zf b).toArray);binOp .eql 76 (.agg (zf a).toArray) (.agg (zf b).toArray)).run PG w = .ok (.bool (jy a b)) w:=by
 obtain⟨G,d,c⟩:=zxS;have:=zlq d 9997 rfl (by kernel_rfl) (zg a) (zg b) (c a) (c b) x y w;rw[this,zdi zqJ,Bool.decide_eq_true]
theorem zys:∃G,TyEq PG 80 true 7 2 G/\∀e:Ev,G (evE.enc e):=by
 refine⟨_,.struct (uf Tryz.underlying80).1 (by kernel_rfl) (fun w=>Tryz.isAgg80 w) (jc (by kernel_rfl) (by kernel_rfl)).1 (by kernel_rfl)
  (by rw[(uf Tryz.underlying80).2];exact .cons (by decide) rfl zxU (.cons (by decide) rfl tU8 (.cons (by decide) rfl tU8 (.cons (by decide) rfl tU8 (.cons (by decide) rfl tU8 (.cons (by decide) rfl tU8 (.cons (by decide) rfl tU8 .nil))))))),fun e=>?_⟩
 exact⟨⟨_,rfl⟩,⟨_,rfl⟩,⟨_,rfl⟩,⟨_,rfl⟩,⟨_,rfl⟩,⟨_,rfl⟩,⟨_,rfl⟩,trivial⟩
theorem zrg{a b:Ev}:evE.enc a=evE.enc b↔a=b:=by
 constructor
 ·intro h;obtain⟨d,j,f,n,r,p,i⟩:=a;obtain⟨e,k,l,q,o,g,m⟩:=b;have h:[i64 d,u8 j,u8 f,u8 n,u8 r,u8 p,u8 i]=[i64 e,u8 k,u8 l,u8 q,u8 o,u8 g,u8 m]:=h;simp only[QH,Gh,u8,Value.int.injEq,true_and,qS] at h;obtain⟨c,rfl,rfl,rfl,rfl,rfl,rfl⟩:=h;have c:d=e:=by injection c
  rw[c]
 ·rintro rfl;rfl
theorem zwZ(x y:Operand)(a b:Ev)(w:Wd):(do eqGuard .neq 80 x y (.agg (evE.enc a).toArray) (.agg (evE.enc b).toArray);binOp .neq 80 (.agg (evE.enc a).toArray) (.agg (evE.enc b).toArray)).run PG w = .ok (.bool (!decide (a=b))) w:=by
 obtain⟨G,d,c⟩:=zys;have:=zsK d 9998 rfl (by kernel_rfl) (a:=evE.enc a) (b:=evE.enc b) rfl rfl (c a) (c b) x y w;rw[this,zdi zrg]
theorem zfb:∀(ev:List Ev) (k:Nat),(∀j,j<k->(ev.getD j ev0).th = -1)->k<=ev.length->qz ev=k+qz (ev.drop k)
 | ev,0,_,_=>by rw [Uj,UQ]
 | [],k+1,_,h=>by simp at h
 | e::ev,k+1,hj,h=>by
  have d:e.th = -1:=hj 0 (by omega);have a:=zfb ev k (fun j b=>hj (j+1) (by omega)) (by simpa using h);unfold qz at a ⊢;rw[Ko,Gn (Up d),Qp,a,List.drop_succ_cons];omega
section
variable{q:OA}{c:Nat}{ev:List Ev}{w:Wd}
theorem zoq(hl:SlR evE w q ev)(hn:ev.length<=1000):CB 54 #[.slice q ev.length c] w (i64 (qz ev:Nat)):=by
 refine zD 19 [.slice q ev.length c] Tryz.func54 ?_;refine⟨Nat,fun k=>⟨[(0,.slice q ev.length c),(5,.slice q ev.length c),(6,i64 ev.length),(7,i64 (k:Nat))],[]⟩,fun k X=>k<=ev.length/\(∀j,j<k->(ev.getD j ev0).th = -1)/\Bw w X,fun k=>ev.length-k,0,(cvE rfl rfl),⟨UZ _,fun j h=>by omega,Gb _ _⟩,?_⟩;rintro k X ⟨hk,r,d⟩;dsimp only;have p:=d.size;refine biE (fun l=>?_) fun l=>?_
 ·have l:(k:Int)<(ev.length:Int):=dT l;have a:k<ev.length:=by omega
  obtain⟨b,o,rfl,z,g⟩:=zcX (hl.below d) a;obtain⟨e,n⟩:=nm (ev.getD k ev0);rw[<- n] at g;refine⟨k,rfl,a,evE.enc e,rfl,g,z,zo (X:=X) (v := .agg (evE.enc e).toArray) k80 rfl rfl (Qg.2 fun u y=>evE.one e u y) fun Y t s sY=>?_⟩;have s:Y.heap[X.heap.size]?=some (.cells (evE.enc e).toArray 80 (0,0)):=s;refine⟨i64 e.th,zc (za s) (i:=0) rfl,?_⟩;have f:=d.trans (t.mono p);refine biE (fun h=>?_) fun h=>?_
  ·have h:(!decide (e.th = -1))=true:=h;have h:¬e.th = -1:=by simpa using h
   refine⟨?_,f⟩;have m:=zfb ev k r hk;have h3:qz (ev.drop k)=0:=by
    unfold qz;have x:ev[k]=e:=(by rw[n,gDe,gE a];rfl);rw[<- JD a,Ko,x,Gm (by simpa using h)];rfl
   rw[h3] at m;exact ri (by omega)
  ·have h:(!decide (e.th = -1))=false:=h;have h:e.th = -1:=by simpa using h
   refine nxI (by omega) ⟨k+1,(cvE rfl rfl),⟨a,fun j aa=>?_,f⟩,zdc (by omega)⟩;by_cases e2:j=k
   ·rw[e2,<- n];exact h
   ·exact r j (by omega)
 ·have l:¬(k:Int)<(ev.length:Int):=dF l;obtain rfl:k=ev.length:=by omega
  refine⟨?_,d⟩;have m:=zfb ev ev.length r (UW _);rw[Qj] at m;exact ri (by rw[m];show((ev.length:Nat):Int)=((ev.length+0:Nat):Int);rfl)
theorem ztM{i:Nat}{v:UInt8}:zeU (zk3 [(0,1,false),(1,1,false),(2,1,false),(3,1,false),(4,1,false),(5,1,false),(6,1,false)]) (evE.enc ev0) [(0,i64 (-1)),(1,u8 2),(2,u8 (UInt8.ofNat i)),(3,u8 v)]=some (evE.enc ⟨-1,2,UInt8.ofNat i,v,0,0,0⟩):=rfl
theorem zjE{locs:Nat}(hl:SlR evE w q ev)(hn:ev.length<=1000)(hlo:locs<=1000):CB 55 #[.slice q ev.length c,i64 locs] w (.bool (jE ev locs)):=by
 refine zD 69 [.slice q ev.length c,i64 locs] Tryz.func55 ?_;refine⟨Nat×Int×Nat,fun s=>⟨[(1,i64 locs),(5,i64 s.2.1),(6,i64 (s.2.2:Nat)),(9,.slice q ev.length c),(10,i64 ev.length),(11,i64 (s.1:Nat))],[]⟩,fun s X=>s.1<=ev.length/\s.2.2<=s.1/\zct locs s.1 (ev.drop s.1) s.2.1 s.2.2=jE ev locs/\Bw w X,fun s=>ev.length-s.1,(0,0,0),(cvE rfl rfl),⟨UZ _,UW _,rfl,Gb _ _⟩,?_⟩;rintro⟨k,t,m⟩ X ⟨hk,hm,a,aa⟩;dsimp only at hk hm a ⊢;have ac:=aa.size;refine biE (fun hc=>?_) fun hc=>?_
 ·have hc:(k:Int)<(ev.length:Int):=dT hc;have r:k<ev.length:=by omega
  obtain⟨b,o,rfl,hb,ab⟩:=zcX (hl.below aa) r;obtain⟨e,he⟩:=nm (ev.getD k ev0);rw[<- he] at ab;have hdr:ev.drop k=e::ev.drop (k+1):=by
   rw[<- JD r,he,gDe,gE r];rfl
  rw[hdr] at a;unfold zct at a;refine⟨k,rfl,r,evE.enc e,rfl,ab,hb,zo (X:=X) (v := .agg (evE.enc e).toArray) k80 rfl rfl (Qg.2 fun u hu=>evE.one e u hu) fun Y ad fY sY=>?_⟩;have fY:Y.heap[X.heap.size]?=some (.cells (evE.enc e).toArray 80 (0,0)):=fY;have f:=aa.trans (ad.mono ac);have z:∀{i:Nat} {v:Value},(evE.enc e)[i]?=some v->Y.cell? ⟨X.heap.size,0+i,none⟩=some v:=fun h=>zc (za fY) h;have no:jE ev locs=false->(Ending.returned (.bool false)=Ending.returned (.bool (jE ev locs))/\Bw w Y):=fun h=>⟨rb h.symm,f⟩;refine biE (fun h=>?_) fun h=>?_
  ·have h:(k:Int)<(locs:Int):=dT h;rw[Gn (by omega:k<locs)] at a;refine⟨evE.enc e,rfl,za fY,hlt fY,_,w8N k,u8 e.v,z (i:=3) rfl,evE.enc ⟨-1,2,UInt8.ofNat k,e.v,0,0,0⟩,ztM,_,fun w=>zwZ _ _ e _ w,biE (fun h2=>?_) fun h2=>?_⟩
   ·have h2:¬e=⟨-1,2,UInt8.ofNat k,e.v,0,0,0⟩:=(by simpa using h2);rw[Gm h2] at a;exact no a.symm
   ·have h2:e=⟨-1,2,UInt8.ofNat k,e.v,0,0,0⟩:=(by simpa using h2);rw[Gn h2] at a;exact nxI (by omega) ⟨(k+1,t,m),(cvE rfl rfl),⟨r,by show m<=k+1;omega,a,f⟩,zdc (by omega)⟩
  ·have h:¬(k:Int)<(locs:Int):=dF h;rw[Gm (by omega:¬k<locs)] at a;refine⟨i64 e.th,z (i:=0) rfl,biE (fun h1=>?_) fun h1=>?_⟩
   ·have h1:e.th<t:=dT h1;refine brT ?_;rw[Gn (.inl h1)] at a;exact no a.symm
   have h1:¬e.th<t:=dF h1;refine⟨i64 e.th,z (i:=0) rfl,biE (fun h2=>?_) fun h2=>?_⟩
   ·have h2:4<=e.th:=dT h2;rw[Gn (.inr h2)] at a;exact no a.symm
   have h2:¬4<=e.th:=dF h2;rw[Gm (by rintro(h | h);exact h1 h;exact h2 h)] at a;refine⟨i64 e.th,z (i:=0) rfl,biE (fun h9=>?_) fun h9=>?_⟩
   ·have h9:t<e.th:=dT h9;dsimp only at a;rw[Gn h9,Gn h9] at a;refine⟨i64 e.th,z (i:=0) rfl,u8 e.p,z (i:=6) rfl,(e.p.toNat:Int),jh _,biE (fun j=>?_) fun j=>?_⟩
    ·have j:¬e.p.toNat=0:=by
      have j:(!decide ((e.p.toNat:Int)=(0:Nat)))=true:=j;simpa using j
     rw[Gm j] at a;exact no a.symm
    have j:e.p.toNat=0:=by
     have j:(!decide ((e.p.toNat:Int)=(0:Nat)))=false:=j;simpa using j
    rw[Gn j] at a;refine⟨((0+1:Nat):Int),(ze (by omega)).trans (by omega),u8 e.k,z (i:=1) rfl,biE (fun y=>?_) fun y=>?_⟩
    ·refine brE y ?_;have y:e.k=1:=qS.1 (dT y);rw[Gn (.inl y)] at a;refine⟨u8 e.l,z (i:=2) rfl,(e.l.toNat:Int),jh _,biE (fun d=>?_) fun d=>?_⟩
     ·have d:(locs:Int)<=(e.l.toNat:Int):=dT d;rw[Gm (by omega)] at a;exact no a.symm
     ·have d:¬(locs:Int)<=(e.l.toNat:Int):=dF d;rw[Gn (by omega)] at a;exact nxI (by omega) ⟨(k+1,e.th,0+1),(cvE rfl rfl),⟨r,by show 0+1<=k+1;omega,a,f⟩,zdc (by omega)⟩
    have y:¬e.k=1:=fun x=>(dF y) (by rw[x];rfl);refine biE (fun d=>?_) fun d=>?_
    ·have d:e.k=2:=qS.1 (dT d);rw[Gn (.inr d)] at a;refine⟨u8 e.l,z (i:=2) rfl,(e.l.toNat:Int),jh _,biE (fun d=>?_) fun d=>?_⟩
     ·have d:(locs:Int)<=(e.l.toNat:Int):=dT d;rw[Gm (by omega)] at a;exact no a.symm
     ·have d:¬(locs:Int)<=(e.l.toNat:Int):=dF d;rw[Gn (by omega)] at a;exact nxI (by omega) ⟨(k+1,e.th,0+1),(cvE rfl rfl),⟨r,by show 0+1<=k+1;omega,a,f⟩,zdc (by omega)⟩
    have d:¬e.k=2:=fun x=>(dF d) (by rw[x];rfl);rw[Gm (by rintro(h | h);exact y h;exact d h)] at a;refine biE (fun h6=>?_) fun h6=>?_
    ·have h6:e.k=3:=qS.1 (dT h6);rw[Gn h6] at a;refine⟨u8 e.l,z (i:=2) rfl,biE (fun n=>?_) fun n=>?_⟩
     ·have n:¬e.l=0:=by
       have n:(!decide ((e.l.toNat:Int)=0))=true:=n;intro x;rw[x] at n
       cases n
      refine brT ?_;rw[Gm fun h=>n h.1] at a;exact no a.symm
     ·have n:e.l=0:=by
       have n:(!decide ((e.l.toNat:Int)=((0:UInt8).toNat:Int)))=false:=n;exact qS.1 (by simpa using n)
      refine⟨u8 e.v,z (i:=3) rfl,biE (fun g=>?_) fun g=>?_⟩
      ·have g:¬e.v=0:=by
        have g:(!decide ((e.v.toNat:Int)=0))=true:=g;intro x;rw[x] at g
        cases g
       rw[Gm fun h=>g h.2] at a;exact no a.symm
      ·have g:e.v=0:=by
        have g:(!decide ((e.v.toNat:Int)=((0:UInt8).toNat:Int)))=false:=g;exact qS.1 (by simpa using g)
       rw[Gn ⟨n,g⟩] at a;exact nxI (by omega) ⟨(k+1,e.th,0+1),(cvE rfl rfl),⟨r,by show 0+1<=k+1;omega,a,f⟩,zdc (by omega)⟩
    ·have h6:¬e.k=3:=fun x=>(dF h6) (by rw[x];rfl);rw[Gm h6] at a;exact no a.symm
   ·have h9:¬t<e.th:=dF h9;dsimp only at a;rw[Gm h9,Gm h9] at a;refine⟨u8 e.p,z (i:=6) rfl,(e.p.toNat:Int),jh _,biE (fun j=>?_) fun j=>?_⟩
    ·have j:¬e.p.toNat=m:=by
      have j:(!decide ((e.p.toNat:Int)=(m:Nat)))=true:=j;intro x;rw[x] at j;simp at j
     rw[Gm j] at a;exact no a.symm
    have j:e.p.toNat=m:=by
     have j:(!decide ((e.p.toNat:Int)=(m:Nat)))=false:=j;have j:(e.p.toNat:Int)=(m:Nat):=(by simpa using j);omega
    rw[Gn j] at a;refine nxI (by omega) ⟨u8 e.k,z (i:=1) rfl,biE (fun y=>?_) fun y=>?_⟩
    ·refine brE y ?_;have y:e.k=1:=qS.1 (dT y);rw[Gn (.inl y)] at a;refine⟨u8 e.l,z (i:=2) rfl,(e.l.toNat:Int),jh _,biE (fun d=>?_) fun d=>?_⟩
     ·have d:(locs:Int)<=(e.l.toNat:Int):=dT d;rw[Gm (by omega)] at a;exact no a.symm
     ·have d:¬(locs:Int)<=(e.l.toNat:Int):=dF d;rw[Gn (by omega)] at a;exact nxI (by omega) ⟨(k+1,t,m+1),(cvE rfl rfl),⟨r,by show m+1<=k+1;omega,a,f⟩,zdc (by omega)⟩
    have y:¬e.k=1:=fun x=>(dF y) (by rw[x];rfl);refine biE (fun d=>?_) fun d=>?_
    ·have d:e.k=2:=qS.1 (dT d);rw[Gn (.inr d)] at a;refine⟨u8 e.l,z (i:=2) rfl,(e.l.toNat:Int),jh _,biE (fun d=>?_) fun d=>?_⟩
     ·have d:(locs:Int)<=(e.l.toNat:Int):=dT d;rw[Gm (by omega)] at a;exact no a.symm
     ·have d:¬(locs:Int)<=(e.l.toNat:Int):=dF d;rw[Gn (by omega)] at a;exact nxI (by omega) ⟨(k+1,t,m+1),(cvE rfl rfl),⟨r,by show m+1<=k+1;omega,a,f⟩,zdc (by omega)⟩
    have d:¬e.k=2:=fun x=>(dF d) (by rw[x];rfl);rw[Gm (by rintro(h | h);exact y h;exact d h)] at a;refine biE (fun h6=>?_) fun h6=>?_
    ·have h6:e.k=3:=qS.1 (dT h6);rw[Gn h6] at a;refine⟨u8 e.l,z (i:=2) rfl,biE (fun n=>?_) fun n=>?_⟩
     ·have n:¬e.l=0:=by
       have n:(!decide ((e.l.toNat:Int)=0))=true:=n;intro x;rw[x] at n
       cases n
      refine brT ?_;rw[Gm fun h=>n h.1] at a;exact no a.symm
     ·have n:e.l=0:=by
       have n:(!decide ((e.l.toNat:Int)=((0:UInt8).toNat:Int)))=false:=n;exact qS.1 (by simpa using n)
      refine⟨u8 e.v,z (i:=3) rfl,biE (fun g=>?_) fun g=>?_⟩
      ·have g:¬e.v=0:=by
        have g:(!decide ((e.v.toNat:Int)=0))=true:=g;intro x;rw[x] at g
        cases g
       rw[Gm fun h=>g h.2] at a;exact no a.symm
      ·have g:e.v=0:=by
        have g:(!decide ((e.v.toNat:Int)=((0:UInt8).toNat:Int)))=false:=g;exact qS.1 (by simpa using g)
       rw[Gn ⟨n,g⟩] at a;exact nxI (by omega) ⟨(k+1,t,m+1),(cvE rfl rfl),⟨r,by show m+1<=k+1;omega,a,f⟩,zdc (by omega)⟩
    ·have h6:¬e.k=3:=fun x=>(dF h6) (by rw[x];rfl);rw[Gm h6] at a;exact no a.symm
 ·have hc:¬(k:Int)<(ev.length:Int):=dF hc;obtain rfl:k=ev.length:=by omega
  rw[Qj] at a;exact⟨rb a,aa⟩
end
end Go.Proofs.YtakcdebpklffiaaGreatDoor
