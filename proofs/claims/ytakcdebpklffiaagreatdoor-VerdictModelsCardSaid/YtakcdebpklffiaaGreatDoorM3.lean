/- Contracts of functions, and plain facts, for the law that the last text of this claim proves. -/
import Derived.Test.YtakcdebpklffiaaGreatDoorM2
import Derived.Test.YtakcdebpklffiaaGreatDoorM1
import Derived.Shelf.Strings.Builder1
import Derived.Shelf.Strings.Builder2
import Derived.Shelf.Strings.OnBuilder
import Derived.Shelf.Small.Bits
import Derived.Shelf.Strconv.Itoa0
import Derived.Shelf.Strconv.Itoa1
import Derived.Shelf.LaysM
import Derived.Shelf.Strconv.Itoa2
import Derived.Shelf.Strconv.Itoa3
import Derived.Shelf.Strconv.Clone
import Derived.Shelf.Strconv.Lower
import Derived.Shelf.Strconv.RangeError
import Derived.Shelf.LaysC
import Derived.Shelf.Strconv.ToErrorRange
import Derived.Shelf.Strconv.ParseUintEmpty
import Derived.Shelf.Strconv.ParseUint10b8
import Derived.Ground.MpProg
import Derived.Shelf.Pu.ParseUintPublic10
import Derived.Shelf.Pu.ErrVarParseUint
import Derived.Shelf.Strings.Search1
import Derived.Shelf.Strings.Search2
import Derived.Shelf.Strings.Search3
import Derived.Shelf.Strings.Cut
import Derived.Shelf.Strings.Count
import Derived.Shelf.Strings.Shaped
import Derived.Shelf.Strings.Split
import Derived.Shelf.Unicode.DecodeSlow
import Derived.Ground.SlsfProg
import Derived.Shelf.SlSortCmp.Insertion
import Derived.Shelf.SlSortCmp.InsertionK
import Derived.Shelf.SlSortCmp.SiftDownK
import Derived.Shelf.SlSortCmp.HeapSortK
import Derived.Shelf.SlSortCmp.MedianK
import Derived.Shelf.SlSortCmp.PivotK
import Derived.Shelf.SlSortCmp.ReverseRangeK
import Derived.Shelf.SlSortCmp.PartialInsertionK
import Derived.Shelf.SlSortCmp.PartitionEqualK
import Derived.Shelf.SlSortCmp.PartitionK
import Derived.Shelf.SlSortCmp.PdqK
import Derived.Shelf.SlSortCmp.WholeK
import Derived.Shelf.SlSortCmp.Insertion1
import Derived.Shelf.SlSortCmp.NoneTotal
import Derived.Test.YtakcdebpklffiaaGreatDoorProg
import Derived.Lib.ItoaNum
import Derived.Lib.Join
set_option linter.unusedSimpArgs false
set_option linter.unusedVariables false
namespace Go.Proofs.YtakcdebpklffiaaGreatDoor
open Go.Vc Go.RowKit Go.Sei
def ze3 (l:List UInt8):Nat:=l.foldl (fun v c=>10*v+(c.toNat-48)) 0
theorem zqV{s:List UInt8}{k:Nat}(h:k<s.length):ze3 (s.take (k+1))=10*ze3 (s.take k)+(s[k].toNat-48):=by
 unfold ze3;rw[tsg h,KS];rfl
theorem zvR{c:UInt8}(h:zbX c=true):48<=c.toNat/\c.toNat<=57:=by
 unfold zbX at h;have h:qF c=4:=dT h;unfold qF at h
 cases h1:zhb c with
 | true=>rw [h1] at h;cases h
 | false =>
  rw[h1] at h
  cases h2:ziR c with
  | true=>unfold ziR at h2;simp at h2;omega
  | false =>
   rw[h2] at h
   revert h
   cases eqB c 32||eqB c 9 <;> cases eqB c 10 <;> cases eqB c 95 <;> cases eqB c 35 <;> cases zpB c <;> (intro h;cases h)
theorem zyg(s:List UInt8)(hs:s.length<=140737488351232)(w:Wd):Calls PG 316 #[qH s] w fun e w'=>∃v,e = .returned (.tuple #[u8 v,.bool (zlb s)])/\w=w':=by
 refine qA 47 [qH s] (.s .p (.c .p .p)) Tryz.func316 ?_;have d:zlb s=(decide (1<=s.length)&&(decide (s.length<=3)&&(!(decide (s.head?=some 48)&&decide (1<s.length))&&(s.all zbX&&decide (ze3 s<=255))))):=rfl;refine⟨Unit,fun _=>⟨[(0,qH s)],[]⟩,fun _ X=>(1<=s.length/\s.length<=3/\(decide (s.head?=some 48)&&decide (1<s.length))=false)/\w=X,?_,?_⟩
 ·refine biE (fun a=>?_) fun a=>?_
  ·have a:(s.length:Int)<1:=dT a;exact brT (brT ⟨0,by rw[d,Ue (by omega)];rfl,rfl⟩)
  have a:¬(s.length:Int)<1:=dF a;refine biE (fun j=>?_) fun j=>?_
  ·have j:(3:Int)<(s.length:Int):=dT j;exact brT ⟨0,by rw[d,Ue (p:=s.length<=3) (by omega)];simp;rfl,rfl⟩
  have j:¬(3:Int)<(s.length:Int):=dF j;have r:0<s.length:=by omega
  have u:s.head?=some s[0]:=by rw[List.head?_eq_getElem?,gE r]
  refine⟨0,rfl,r,s[0],zdl r,biE (fun h=>?_) fun h=>?_⟩
  ·have h:s[0]=48:=by
    apply Ud.1;have h:((s[0].toNat:Nat):Int)=48:=dT h;have:(48:UInt8).toNat=48:=rfl;omega
   refine biE (fun m=>?_) fun m=>?_
   ·have m:(1:Int)<(s.length:Int):=dT m;exact⟨0,by rw[d,u,h,Up (p:=1<s.length) (by omega)];simp;rfl,rfl⟩
   ·have m:¬(1:Int)<(s.length:Int):=dF m;exact⟨(),(cvE rfl rfl),⟨by omega,by omega,by rw[Ue (p:=1<s.length) (by omega),Uf]⟩,rfl⟩
  ·refine brF ?_;exact⟨(),(cvE rfl rfl),⟨by omega,by omega,by
    have:¬s[0]=48:=fun e=>by rw[e] at h;cases h
    rw[u,Ue (by simpa using this),Ug]⟩,rfl⟩
 rintro _ _ ⟨⟨a,j,h⟩,rfl⟩;have d:zlb s=(s.all zbX&&decide (ze3 s<=255)):=by rw[d,Up a,Up j,h];rfl
 rw[d];refine⟨Nat,fun k=>⟨[(0,qH s),(4,i64 (ze3 (s.take k):Nat)),(25,i64 s.length),(26,i64 (k:Nat))],[]⟩,fun k X=>k<=s.length/\(∀c∈s.take k,zbX c=true)/\ze3 (s.take k)<10^k/\w=X,fun k=>s.length-k,0,(cvE rfl rfl),⟨UZ _,by simp,Nat.one_pos,rfl⟩,?_⟩;rintro k _ ⟨z,g,o,rfl⟩;dsimp only at z g o ⊢;refine biE (fun f=>?_) fun f=>?_
 ·have f:(k:Int)<(s.length:Int):=dT f;have l:k<s.length:=by omega
  refine⟨k,rfl,l,s[k],zdl l,cmo (zao _ _) ?_⟩;rintro e _ ⟨rfl,rfl⟩;have x:decide ((qF s[k]:Int)=4)=zbX s[k]:=zcF (b:=4);refine biE (fun i=>?_) fun i=>?_
  ·have i:zbX s[k]=false:=by
    have a:(!decide ((qF s[k]:Int)=4))=true:=i;rw[x] at a;simpa using a
   have:s.all zbX=false:=by
    rw[KL];exact⟨s[k],gM _,by rw[i];simp⟩
   exact⟨0,by rw[this];rfl,rfl⟩
  ·have i:zbX s[k]=true:=by
    have a:(!decide ((qF s[k]:Int)=4))=false:=i;rw[x] at a;simpa using a
   obtain⟨d1,d2⟩:=zvR i;have t:ze3 (s.take k)<1000:=nL o (by
    have:k<=3:=(by omega);exact Ke (by decide) this)
   have q:=zqV l;refine⟨((10*ze3 (s.take k):Nat):Int),(ze (by omega)).trans (by omega),k,rfl,l,s[k],zdl l,((s[k].toNat-48:Nat):Int),(zfq (by omega)).trans (by omega),((s[k].toNat-48:Nat):Int),(ze (by omega)).trans (by omega),(ze3 (s.take (k+1)):Int),(ze (by omega)).trans (by omega),(k+1:Nat),(ze (by omega)).trans (by omega),k+1,(cvE rfl rfl),⟨l,?_,?_,rfl⟩,zdc (by omega)⟩
   ·rw[tsg l];intro c f;rcases QN.1 f with f | f
    ·exact g c f
    ·simp only[KB] at f;rw[f];exact i
   ·rw[q,Nat.pow_succ];omega
 ·have f:¬(k:Int)<(s.length:Int):=dF f;obtain rfl:k=s.length:=by omega
  rw[Qt] at g o;have y:s.all zbX=true:=Qg.2 g;rw[y,Qt];have t:ze3 s<1000:=nL o (Ke (by decide) j);refine biE (fun n=>?_) fun n=>?_
  ·have n:(255:Int)<(ze3 s:Int):=dT n;exact⟨0,by rw[Ue (by omega)];rfl,rfl⟩
  ·have n:¬(255:Int)<(ze3 s:Int):=dF n;exact⟨((UInt8.ofNat (ze3 s)).toNat:Int),(zfq (by omega)).trans (by rw[KH];omega),UInt8.ofNat (ze3 s),by rw[Up (by omega)];rfl,rfl⟩
theorem zw7{t:Tok}(h:t.kind=3)(hl:0<t.text.length):jI t=if qF t.text[0]=6 then 0 else 40:=by
 obtain⟨k,x,p⟩:=t;have h:k=3:=h;subst h
 cases x with
 | nil=>exact Gp hl (Nat.lt_irrefl 0)
 | cons a r=>rfl
theorem zvl(t:Tok)(ht:t.kind=3->t.text≠[])(hs:t.text.length<=140737488351232)(w:Wd):CB 300 #[.agg (jC.enc t).toArray] w (i64 (jI t)):=by
 refine zD 30 [.agg (jC.enc t).toArray] Tryz.func300 ?_;have b:Bw w (w.alloc (.cells (jC.enc t).toArray 260)):=zba _ _;have m:=zt w (.cells (jC.enc t).toArray 260);have h:zI (w.alloc (.cells (jC.enc t).toArray 260)) ⟨w.heap.size,0,none⟩ [u8 t.kind,qH t.text,i64 t.pos]:=za m;have g:∀k:UInt8,decide ((t.kind.toNat:Int)=(k.toNat:Int))=decide (t.kind=k):=fun k=>by
  rw[QC];exact qS
 refine⟨_,zc h (i:=0) rfl,biE (fun f=>?_) fun f=>?_⟩
 ·have f:t.kind=1:=dT ((g 1).symm.trans f);have e:jI t=if 16<t.text.length then 42 else 0:=by unfold jI;rw[Gn f]
  rw[e];refine⟨_,zc h (i:=1) rfl,biE (fun c=>?_) fun c=>?_⟩
  ·have c:(16:Int)<(t.text.length:Int):=dT c;exact⟨by rw[Gn (by omega)];rfl,b⟩
  ·have c:¬(16:Int)<(t.text.length:Int):=dF c;exact⟨by rw[Gm (by omega)];rfl,b⟩
 have f:¬t.kind=1:=dF ((g 1).symm.trans f);refine biE (fun c=>?_) fun c=>?_
 ·have c:t.kind=2:=dT ((g 2).symm.trans c);have e:jI t=if zlb t.text then 0 else 41:=by unfold jI;rw[Gm f,Gn c]
  rw[e];refine⟨_,zc h (i:=1) rfl,cmo (zyg t.text hs _) ?_⟩;rintro e _ ⟨v,rfl,rfl⟩;refine biE (fun a=>?_) fun a=>?_
  ·have a:(!zlb t.text)=true:=a;have a:zlb t.text=false:=by simpa using a
   exact⟨by rw[a];rfl,b⟩
  ·have a:(!zlb t.text)=false:=a;have a:zlb t.text=true:=by simpa using a
   exact⟨by rw[a];rfl,b⟩
 have c:¬t.kind=2:=dF ((g 2).symm.trans c);refine biE (fun a=>?_) fun a=>?_
 ·have a:t.kind=3:=dT ((g 3).symm.trans a);have l:=ht a;have j:0<t.text.length:=List.length_pos_iff.2 l;have e:jI t=if qF t.text[0]=6 then 0 else 40:=zw7 a j
  rw[e];refine⟨_,zc h (i:=1) rfl,0,rfl,j,t.text[0],zdl j,cmo (zao _ _) ?_⟩;rintro e _ ⟨rfl,rfl⟩;refine biE (fun d=>?_) fun d=>?_
  ·have d:(!decide ((qF t.text[0]:Int)=6))=true:=d;have d:¬qF t.text[0]=6:=by simp at d;omega
   exact⟨by rw[Gm d];rfl,b⟩
  ·have d:(!decide ((qF t.text[0]:Int)=6))=false:=d;have d:qF t.text[0]=6:=by simp at d;omega
   exact⟨by rw[Gn d];rfl,b⟩
 have a:¬t.kind=3:=dF ((g 3).symm.trans a);exact⟨by unfold jI;rw[Gm f,Gm c,Gm a];rfl,b⟩
theorem zgI{a b c:Wd}{g r:Nat}(h:a.grownBy b (some g))(k:b.grownBy c (some r))(hr:a.heap.size<=r):a.grownBy c (some g) :=
 ⟨k.os.trans h.os,k.tape.trans h.tape,k.output.trans h.output,UL h.size k.size,fun i j d=>(k.block i (nL j h.size) (fun e=>by simp only[KY] at e;omega)).trans (h.block i j d)⟩
theorem zuY{x y:Int}{T:Array TypeId}{t:TypeId}{w:Wd}{K:Value->Wd->Prop}(k:K (.int .i64 (if y<x then y else x)) w):SatR ((Builtin.min_ T t [Value.int .i64 x,.int .i64 y].toArray).run PG w) K :=
 SatR.mk (v := .int .i64 (if y<x then y else x)) (w':=w) (by simp[Builtin.min_,Builtin.min2]) k
section
variable{s:List UInt8}{f a:Nat}{op:Bool}
theorem zmx(h:zL s a<s.length)(h2:¬qF s[zL s a]=2):zaO s (f+1) a op=some (zlW s (zL s a) s[zL s a],zbv s (zL s a) s[zL s a],true):=by
 unfold zaO;rw[gE h];simp only[Gm h2]
theorem ziG(h:zar s (zL s a)=true):zaO s (f+1) a true=some (⟨4,[],zL s a⟩,min (zL s a+1) s.length,false):=by
 unfold zaO;by_cases b:zL s a<s.length
 ·rw[zdn b] at h;have h:=dT h;rw[gE b];simp only[Gn h];rfl
 ·rw[JI (by omega)];rfl
theorem zj1(h:s.length<=zL s a):zaO s (f+1) a false=none:=by
 unfold zaO;rw[JI h];rfl
theorem zj2(h:zL s a<s.length)(h2:qF s[zL s a]=2):zaO s (f+1) a false=zaO s f (min (zL s a+1) s.length) false:=by
 conv=>lhs;unfold zaO
 rw[gE h];simp only[Gn h2];rfl
theorem zpo:a<=zL s a:=by
 have b:a<=zcN s a:=Qv _ _;unfold zL
 split
 ·split
  ·omega
  ·exact b
 ·exact b
end
def zlN:Tok:=⟨0,[],0⟩
theorem zsJ{g a:Nat}{s:List UInt8}{op:Bool}{w:Wd}(h:ScV w g s a op)(ha:a<=s.length)(hs:s.length<=140737488351232) :
  Calls PG 299 #[At0 g] w fun e w'=>∃t a' op' ok,e = .returned (.tuple #[.agg (jC.enc t).toArray,.bool ok])/\(ok=true->zaO s (s.length+2) a op=some (t,a',op'))/\(ok=false->zaO s (s.length+2) a op=none) /\
   a'<=s.length/\ScV w' g s a' op'/\w.grownBy w' (some g):=by
 refine zD 57 [At0 g] Tryz.func299 ?_;obtain⟨r,hr⟩:=nm (w.heap.size);have am:g<r:=by rw[hr];exact hlt h
 obtain⟨W0,l⟩:=nm (w.alloc (.cells (jC.enc zlN).toArray 260));have z:Bw w W0:=by rw[l];exact(zba _ _)
 have f0:W0.heap[r]?=some (.cells (jC.enc zlN).toArray 260 (0,0)):=by rw[l,hr];exact zt w _
 have h0:ScV W0 g s a op:=h.below z;refine⟨Nat×Nat×Bool,fun k=>⟨[(0,At0 g),(2,At0 r)],[]⟩,fun k X=>s.length+1<=k.1+k.2.1/\k.2.1<=s.length/\zaO s (k.1+1) k.2.1 k.2.2=zaO s (s.length+2) a op/\ScV X g s k.2.1 k.2.2/\w.grownBy X (some g)/\X.heap[r]?=some (.cells (jC.enc zlN).toArray 260 (0,0)),
  fun k=>s.length-k.2.1,(s.length+1,a,op),⟨.cons rfl (.cons (by rw[hr];rfl) .nil),rfl⟩,⟨by omega,ha,rfl,by subst l;exact h0,by subst l;exact zi z,by subst l;exact f0⟩,?_⟩
 clear l z f0 h0 W0;rintro⟨f,k,o⟩ X ⟨hf,hk,m,hX,gX,fX⟩;dsimp only at hf hk m hX gX fX ⊢;have d:∀(t:Tok) (Y:Wd),Y.heap[r]?=some (.cells (jC.enc zlN).toArray 260 (0,0))->∀(K:Wd->Prop),(∀R,R.heap[r]?=some (.cells (jC.enc t).toArray 260 (0,0))->Y.grownBy R (some r)->K R) ->
   SatR ((storeVar 260 ⟨r,0,none⟩ (.agg (jC.enc t).toArray)).run PG Y) fun _ w'=>K w':=fun t Y fY K q =>
  zp (v := .agg (jC.enc t).toArray) zmJ fY rfl rfl rfl (q _ (zn fY) (qW Y _ _))
 have b:∀{A B:Wd},A.grownBy B (some g)->A.heap[r]?=some (.cells (jC.enc zlN).toArray 260 (0,0))->B.heap[r]?=some (.cells (jC.enc zlN).toArray 260 (0,0)):=fun hg hA=>(hg.block _ (hlt hA) (fun e=>by simp only[KY] at e;omega)).trans hA;have c:∀{A B:Wd} {a:Nat} {o:Bool} {q:Nat},A.grownBy B (some q)->g≠q->ScV A g s a o->ScV B g s a o:=fun hg hq hA=>(hg.block _ (hlt hA) (fun e=>hq (by simpa using e))).trans hA;refine cmo (zwT hX hk hs) ?_;rintro e Y ⟨⟨v,rfl⟩,hY,gY⟩;have hp:=zpn (s:=s) hk;have an:=zpo (s:=s) (a:=k);have fY:=b gY fX;have aj:=zd gX gY;refine cmo (zqe hY.cells (hlt hY)) ?_;rintro e Z ⟨rfl,aa⟩;have hZ:=hY.below aa;have ah:=zhK aj aa;have fZ:=zb aa fY;refine biE (fun j=>?_) fun j=>?_
 ·have j:zar s (zL s k)=false:=by
   have h1:(!zar s (zL s k))=true:=j;simpa using h1
  have hl:zL s k<s.length:=by
   by_cases h1:zL s k<s.length
   ·exact h1
   ·rw[zjk (by omega)] at j;cases j
  rw[zdn hl] at j;have j:=dF j;rw[zmx hl j] at m;refine zmk hZ true fun U hU gU sU=>?_;have ac:=zd ah gU;have fU:=b gU fZ;refine cmo (zuu hU hl hs) ?_;rintro e V ⟨rfl,hV,gV⟩;have ab:=zd ac gV;exact d _ V (b gV fU) _ fun R fR gR=>⟨_,rfl,za fR,_,_,_,true,rfl,fun _=>m.symm,fun h=>(by cases h),(zow hl _).2,c gR (by omega) hV,zgI ab gR (by omega)⟩
 have j:zar s (zL s k)=true:=by
  have h1:(!zar s (zL s k))=false:=j;simpa using h1
 refine⟨_,zc hZ.cells (i:=1) rfl,jC.enc ⟨4,[],zL s k⟩,rfl,zo (X:=Z) (v := .agg (jC.enc ⟨4,[],zL s k⟩).toArray) zmJ rfl rfl rfl fun U y p sU=>?_⟩;have p:U.heap[Z.heap.size]?=some (.cells (jC.enc ⟨4,[],zL s k⟩).toArray 260 (0,0)):=p;have hU:=hZ.below y;have ac:=zhK ah y;have fU:=zb y fZ;have ak:r<Z.heap.size:=hlt fZ;refine cmo (zk7 hU.cells) ?_;rintro e V ⟨rfl,n⟩;have hV:=hU.below n;have ab:=zhK ac n;have fV:=zb n fU;have ag:=zb n p;refine DrawE.ord [17] [0,1,2,3,4,5,6,7,8,9,10,11,12,13,14,15,16,17] (by kernel_rfl) ?_;have u:ScV V.drew g s (zL s k) o:=hV;refine⟨_,zc u.cells (i:=1) rfl,(zL s k+1:Nat),(ze (by omega)).trans (by omega),_,zc u.cells (i:=0) rfl,zuY ⟨Gb _ _,?_⟩⟩;have ae:(if((s.length:Nat):Int)<((zL s k+1:Nat):Int) then((s.length:Nat):Int) else((zL s k+1:Nat):Int))=((min (zL s k+1) s.length:Nat):Int):=by
  split <;> omega
 have e5:Value.int .i64 (if(((bs s).size:Nat):Int)<((zL s k+1:Nat):Int) then(((bs s).size:Nat):Int) else((zL s k+1:Nat):Int))=i64 (min (zL s k+1) s.length:Nat):=by
  rw[show(bs s).size=s.length from rfl,ae];rfl
 rw[e5];refine zgt u (min (zL s k+1) s.length) fun R hR gR sR=>?_;have x:=zd (zd ab (zi (Gb _ V).drew)) gR;have fR:=b gR (hdr fV);have ad:R.heap[Z.heap.size]?=some (.cells (jC.enc ⟨4,[],zL s k⟩).toArray 260 (0,0)):=(gR.block _ (hlt (hdr ag)) (fun e=>by simp only[KY] at e;omega)).trans (hdr ag);refine⟨_,zc (za hR) (i:=2) rfl,biE (fun ho=>?_) fun ho=>?_⟩
 ·have ho:o=true:=ho;subst ho;rw[ziG j] at m;refine zmk hR false fun T hT gT sT=>?_;have ai:=zd x gT;have fT:=b gT fR;have af:T.heap[Z.heap.size]?=some (.cells (jC.enc ⟨4,[],zL s k⟩).toArray 260 (0,0)):=(gT.block _ (hlt ad) (fun e=>by simp only[KY] at e;omega)).trans ad;exact⟨_,rfl,za af,hlt af,d ⟨4,[],zL s k⟩ T fT _ fun L fL gL=>⟨_,rfl,za fL,_,_,_,true,rfl,fun _=>m.symm,fun h=>(by cases h),Qy _ _,c gL (by omega) hT,zgI ai gL (by omega)⟩⟩
 ·have ho:o=false:=ho;subst ho;refine biE (fun h5=>?_) fun h5=>?_
  ·have h5:s.length<=zL s k:=dT h5;rw[zj1 h5] at m;exact⟨jC.enc zlN,rfl,d zlN R fR _ fun L fL gL=>⟨_,rfl,za fL,_,_,_,false,rfl,fun h=>(by cases h),fun _=>m.symm,Qy _ _,c gL (by omega) hR,zgI x gL (by omega)⟩⟩
  ·have h5:¬s.length<=zL s k:=dF h5;have hl:zL s k<s.length:=by omega
   have h2:qF s[zL s k]=2:=by rw[zdn hl] at j;exact dT j
   rw[zj2 hl h2] at m;have al:min (zL s k+1) s.length=zL s k+1:=QW (by omega);obtain⟨f',rfl⟩:∃f',f=f'+1:=⟨f-1,by omega⟩;exact⟨(f',min (zL s k+1) s.length,false),(cvE rfl rfl),⟨by show _<=f'+min _ _;omega,Qy _ _,m,hR,x,fR⟩,by show s.length-min _ _<s.length-k;omega⟩
def bOp (op:Bool):Nat:=if op then 1 else 0
theorem zog{s:List UInt8}{f a a':Nat}{op op':Bool}{t:Tok}(h:zaO s (f+1) a op=some (t,a',op')) :
  (∃hl:zL s a<s.length,t=zlW s (zL s a) s[zL s a]/\a'=zbv s (zL s a) s[zL s a]/\op'=true)\/(op=true/\t=⟨4,[],zL s a⟩/\a'=min (zL s a+1) s.length/\op'=false) \/
   (op=false/\zL s a<s.length/\zaO s f (min (zL s a+1) s.length) false=some (t,a',op')):=by
 by_cases b:zL s a<s.length
 ·by_cases c:qF s[zL s a]=2
  ·cases op with
   | true =>
    rw[ziG (by rw[zdn b];exact Up c)] at h;simp only[KY,UD] at h;exact .inr (.inl ⟨rfl,h.1.symm,h.2.1.symm,h.2.2.symm⟩)
   | false =>
    rw[zj2 b c] at h;exact .inr (.inr ⟨rfl,b,h⟩)
  ·rw[zmx b c] at h;simp only[KY,UD] at h;exact .inl ⟨b,h.1.symm,h.2.1.symm,h.2.2.symm⟩
 ·cases op with
  | true =>
   rw[ziG (zjk (by omega))] at h;simp only[KY,UD] at h;exact .inr (.inl ⟨rfl,h.1.symm,h.2.1.symm,h.2.2.symm⟩)
  | false=>rw [zj1 (by omega)] at h;cases h
theorem zd2{s:List UInt8}{t:Tok}{a':Nat}{op':Bool}:∀{f a:Nat} {op:Bool},zaO s f a op=some (t,a',op')->a<=s.length ->
  a'<=s.length/\2*(s.length-a')+bOp op'<2*(s.length-a)+bOp op/\(t.kind=3->t.text≠[])/\t.text.length<=s.length
 | 0,_,_,h,_=>by cases h
 | f+1,a,op,h,ha=>by
  have k:=zpo (s:=s) (a:=a);have j:=zpn ha;rcases zog h with⟨c,rfl,rfl,rfl⟩ | ⟨rfl,rfl,rfl,rfl⟩ | ⟨rfl,c,e⟩
  ·obtain⟨n,g⟩:=zow c s[zL s a];refine⟨g,?_,fun _=>?_,?_⟩
   ·have:bOp true=1:=rfl;omega
   ·intro d;have b:((s.drop (zL s a)).take (zbv s (zL s a) s[zL s a]-zL s a)).length=0:=by
     have:(zlW s (zL s a) s[zL s a]).text=[]:=d;exact Gi List.length this
    rw[Qr,Qq] at b;omega
   ·show((s.drop (zL s a)).take _).length<=_;rw[Qr,Qq];omega
  ·refine⟨Qy _ _,?_,fun h=>(by cases h),UZ _⟩;have b:bOp true=1:=rfl;have l:bOp false=0:=rfl;omega
  ·obtain⟨b,m,i⟩:=zd2 e (Qy _ _);refine⟨b,?_,i⟩;omega
theorem zjM{s:List UInt8}{f a a':Nat}{op op':Bool}{t:Tok}(h:zaO s (s.length+2) a op=some (t,a',op')):zc2 s (f+1) a op=t::zc2 s f a' op':=by
 show(match zaO s (s.length+2) a op with
  | some (t,a',op')=>t::zc2 s f a' op'
  | none=>[])=_
 rw[h]
theorem zjL{s:List UInt8}{f a:Nat}{op:Bool}(h:zaO s (s.length+2) a op=none):zc2 s (f+1) a op=[]:=by
 show(match zaO s (s.length+2) a op with
  | some (t,a',op')=>t::zc2 s f a' op'
  | none=>[])=_
 rw[h]
def StT (pre:List Tok) (vs:List Value) (_:Wd):Prop:=∃t,pre.getLast?=some t/\vs=[.agg (jC.enc t).toArray,i64 (jI t)]
theorem zr5{g:Nat}{w:Wd}:Calls PG 229 #[At0 g] w fun e w'=>e = .returned (.func (.func 298) #[] #[.pointer (some ⟨w.heap.size,0,none⟩)])/\w'=w.alloc (.cells #[At0 g] 380):=by
 refine zD 4 [At0 g] Tryz.func229 ?_;exact⟨rfl,rfl⟩
theorem zqn{g bx:Nat}{s:List UInt8}{W0:Wd}(h:ScV W0 g s 0 false)(hbx:W0.heap[bx]?=some (.cells #[At0 g] 380 (0,0)))(hne:bx≠g)(hs:s.length<=140737488351232) :
  zwx PG 298 [At0 bx] (jm s) W0 (fun k=>k=bx) (fun k=>k=g) StT:=by
 intro yl Fp J Jx W a3 am az hJ a6 hy h0;have al:W.heap[bx]?=some (.cells #[At0 g] 380 (0,0)):=(am bx (.inl rfl)).trans hbx;have ay:ScV W g s 0 false:=(am g (.inr rfl)).trans h;have a7:bx<W0.heap.size:=hlt hbx;have a4:g<W0.heap.size:=hlt h;refine zD 23 [.func (.yield yl) #[] #[],At0 bx] Tryz.func298 ?_
 let Inv:List Tok->Wd->Prop:=fun b X=>J b X/\W.heap.size<=X.heap.size/\X.heap[bx]?=some (.cells #[At0 g] 380 (0,0))/\¬Fp X bx
 have l:∀b X Y,Inv b X->X.grownBy Y (some g)->Inv b Y/\∀k,Fp Y k->Fp X k:=fun b X Y ⟨j,u,n,h4⟩ z=>by
  have aa:StepO W.heap.size (fun k=>k=g) Fp X Y:=⟨z.os,z.tape,z.output,z.size,fun k hk d=>z.block k hk (fun e=>by
   have e:g=k:=(by simpa using e:k=g).symm;rcases d with d | d
   ·exact d.2 e.symm
   ·exact(hJ.lt _ _ _ j d).2 e.symm)⟩
  obtain⟨j1,j2⟩:=hJ.step _ _ _ j aa;refine⟨⟨j1,UL u z.size,(z.block _ (hlt n) (fun e=>hne (by simpa using e))).trans n,fun d=>h4 (j2 _ d)⟩,j2⟩
 have m:∀b X Y,Inv b X->Bw X Y->Inv b Y/\∀k,Fp Y k->Fp X k:=fun b X Y hI hb=>l b X Y hI (zi hb);have I0:Inv [] W:=⟨h0,UW _,al,az bx rfl⟩;refine⟨_,zc (za al) (i:=0) rfl,cmo (zsJ ay (UZ _) hs) ?_⟩;rintro e Y ⟨t,a,op,ok,rfl,c,an,x,hY,gY⟩;obtain⟨I1,_⟩:=l [] W Y I0 gY;refine zo (X:=Y) (v := .agg (jC.enc t).toArray) zmJ rfl rfl rfl fun Z ac fZ sZ=>?_;have fZ:Z.heap[Y.heap.size]?=some (.cells (jC.enc t).toArray 260 (0,0)):=fZ;obtain⟨I2,q2⟩:=m [] Y Z I1 ac;refine⟨List Tok×Nat×Nat×Bool×Bool×Tok×Nat,fun q=>⟨[(0,.func (.yield yl) #[] #[]),(1,At0 bx),(3,.pointer (some ⟨q.2.2.2.2.2.2,0,none⟩)),(4,.bool q.2.2.2.2.1)],[]⟩,
  fun q X=>Inv q.1 X/\(q.2.2.2.2.1=true->jm s=q.1++q.2.2.2.2.2.1::zc2 s q.2.1 q.2.2.1 q.2.2.2.1)/\(q.2.2.2.2.1=false->jm s=q.1)/\(q.2.2.2.2.1=true->2*(s.length-q.2.2.1)+bOp q.2.2.2.1<q.2.1)/\q.2.2.1<=s.length/\ScV X g s q.2.2.1 q.2.2.2.1 /\
   X.heap[q.2.2.2.2.2.2]?=some (.cells (jC.enc q.2.2.2.2.2.1).toArray 260 (0,0))/\W.heap.size<=q.2.2.2.2.2.2/\¬Fp X q.2.2.2.2.2.2/\(q.2.2.2.2.1=true->(q.2.2.2.2.2.1.kind=3->q.2.2.2.2.2.1.text≠[])/\q.2.2.2.2.2.1.text.length<=s.length),
  fun q=>q.2.1,([],2*s.length+2,a,op,ok,t,Y.heap.size),(cvE rfl rfl),⟨I2,?_,?_,?_,x,hY.below ac,fZ,gY.size,?_,?_⟩,?_⟩
 ·intro j;exact zjM (c j)
 ·intro j;exact zjL (an j)
 ·intro n;have:=(zd2 (c n) (UZ _)).2.1;have h0:bOp false=0:=rfl;dsimp only;omega
 ·intro d;have h9:Y.heap.size<Y.heap.size:=(hJ.lt _ _ _ I1.1 (q2 _ d)).1;omega
 ·intro j;exact(zd2 (c j) (UZ _)).2.2
 clear I2 q2 fZ ac sZ I1 gY hY c an x;rintro⟨b,f,a,op,ok,t,tb⟩ X ⟨hI,j,u,d,x,hX,ft,av,af,ae⟩;dsimp only at hI j u d x hX ft av af ae ⊢;refine biE (fun c=>?_) fun c=>?_
 ·have c:ok=true:=c;subst c;have j:=j rfl;have d:=d rfl;obtain⟨g1,g2⟩:=ae rfl;have r:(b++[t]) <+: jm s:=⟨zc2 s f a op,by rw[j];simp⟩;refine DrawE.ord [4] [0,1,2,3,4,5] (by kernel_rfl) ⟨_,rfl,za (hdr ft),hlt (hdr ft),_,rfl,za (hdr ft),hlt (hdr ft),cmo (zvl t g1 (by omega) X.drew) ?_⟩;rintro e U ⟨rfl,ao⟩;refine⟨ao,?_⟩;have w:Bw X U:=(Gb _ X).drew.trans ao;obtain⟨IU,qU⟩:=m b X U hI w;have fU:=zb w ft;have hU:=hX.below w;have aj:¬Fp U tb:=fun h=>af (qU _ h);refine YieldR.mono (hy b t _ U IU.1 ⟨t,by simp,rfl⟩ r) ?_;rintro v V (⟨rfl,ab,p⟩ | ⟨rfl,ab⟩)
  ·refine Gf (fun h=>by cases h) (fun _=>?_);have IU':=IU;obtain⟨_,a2,y,ad⟩:=IU';have a5:=p.size;have a0:¬Fp U g:=fun h=>(hJ.lt _ _ _ IU.1 h).2 rfl;have aq:V.heap[bx]?=_:=(p.same bx (hlt y) ad).trans y;have hV:ScV V g s a op:=(p.same g (hlt hU) a0).trans hU;have fV:=(p.same tb (hlt fU) aj).trans fU;have nF:∀k,k<U.heap.size->¬Fp U k->¬Fp V k:=fun k hk j u=>by
    rcases p.fp k u with n | n
    ·exact j n
    ·omega
   have IV:Inv (b++[t]) V:=⟨ab,by omega,aq,nF bx (hlt y) ad⟩;refine⟨_,rfl,za fV,hlt fV,zo (X:=V) (v := .agg (jC.enc t).toArray) zmJ rfl rfl rfl fun R ag fR sR=>?_⟩;have fR:R.heap[V.heap.size]?=some (.cells (jC.enc t).toArray 260 (0,0)):=fR;obtain⟨IR,qR⟩:=m (b++[t]) V R IV ag;have ax:¬Fp R V.heap.size:=fun h=>by have:=(hJ.lt _ _ _ IV.1 (qR _ h)).1;omega
   refine⟨_,zc (za IR.2.2.1) (i:=0) rfl,cmo (zsJ (hV.below ag) x hs) ?_⟩;rintro e L ⟨t',a',aw,a1,rfl,o,ai,ar,hL,gL⟩;obtain⟨IL,qL⟩:=l (b++[t]) R L IR gL;have au:W.heap.size<=V.heap.size:=IV.2.1;have ap:g≠V.heap.size:=by omega
   have ak:bx≠V.heap.size:=by omega
   have fL:L.heap[V.heap.size]?=some (.cells (jC.enc t).toArray 260 (0,0)):=(gL.block _ (hlt fR) (fun e=>ap (by simpa using e.symm))).trans fR;refine zp (v := .agg (jC.enc t').toArray) zmJ fL rfl rfl rfl ?_;obtain⟨f',rfl⟩:∃f',f=f'+1:=⟨f-1,by omega⟩;have ah:¬Fp L V.heap.size:=fun h=>ax (qL _ h);have aa:StepO W.heap.size (fun k=>k=g) Fp L (L.setRow V.heap.size (Value.agg (jC.enc t').toArray).cells):=⟨rfl,rfl,rfl,by simp,fun k hk d=>zr (fun e=>by
    subst e;rcases d with d | d
    ·omega
    ·exact ah d)⟩
   obtain⟨j1,j2⟩:=hJ.step _ _ _ IL.1 aa;refine⟨(b++[t],f',a',aw,a1,t',V.heap.size),(cvE rfl rfl),⟨⟨j1,by simp;exact IL.2.1,(zr ak).trans IL.2.2.1,fun h=>IL.2.2.2 (j2 _ h)⟩,?_,?_,?_,ar,(zr ap).trans hL,zn fL,au,fun h=>ah (j2 _ h),?_⟩,by show f'<f'+1;omega⟩
   ·intro n;rw[j];show b++t::zc2 s (f'+1) a op=(b++[t])++_;rw[zjM (o n)];simp
   ·intro n;rw[j];show b++t::zc2 s (f'+1) a op=b++[t];rw[zjL (ai n)]
   ·intro n;have:=(zd2 (o n) x).2.1;dsimp only;omega
   ·intro n;exact(zd2 (o n) x).2.2
  ·exact Gf (fun _=>Gf ⟨_,rfl⟩ (.inr ⟨_,r,ab⟩)) (fun h=>by cases h)
 ·have c:ok=false:=c;subst c;have u:=u rfl;exact⟨⟨_,rfl⟩,.inl (by rw[u];exact hI.1)⟩
def zd7 (s:List UInt8):Bool:=decide (s.length<=16384)&&(jm s).all (fun t=>decide (jI t=0))
theorem zlV{s:List UInt8}:∀{f a:Nat} {op:Bool},(zc2 s f a op).length<=f
 | 0,_,_=>UW _
 | f+1,a,op=>by
  unfold zc2
  split
  ·exact Nat.succ_le_succ zlV
  ·exact UZ _
def FpX (L:Nat) (X:Wd) (k:Nat):Prop:=k=L\/k=L+1\/k=L+2\/∃a n cap,X.heap[L]?=some (.cells #[.slice (some a) n cap] 255 (0,0))/\k=a.block
structure ResX (L:Nat) (X:Wd) (v:Value) (pl er:Int):Prop where
 l:X.heap[L]?=some (.cells #[v] 255 (0,0))
 p:X.heap[L+1]?=some (.cells #[i64 pl] 3 (0,0))
 e:X.heap[L+2]?=some (.cells #[i64 er] 33 (0,0))
def JX (w:Wd) (L B:Nat) (pre:List Tok) (X:Wd):Prop:=Bw w X/\(∀t∈pre,jI t=0)/\∃p cap,ResX L X (.slice p pre.length cap) 0 0/\OwnS jC 260 B X p cap pre
def JxX (w:Wd) (L:Nat) (pre:List Tok) (X:Wd):Prop:=Bw w X/\(∃t∈pre,jI t≠0)/\∃pl er,ResX L X (.slice none 0 0) pl er/\er≠0
theorem FpX.row{L:Nat}{X:Wd}{p:OA}{n cap:Nat}{pl er:Int}(h:ResX L X (.slice p n cap) pl er){k:Nat}(hf:FpX L X k):k=L\/k=L+1\/k=L+2\/∃a,p=some a/\k=a.block:=by
 rcases hf with hf | hf | hf | ⟨a,e,b,c,d⟩
 ·exact .inl hf
 ·exact .inr (.inl hf)
 ·exact .inr (.inr (.inl hf))
 ·have:=h.l;rw[c] at this;simp at this;exact .inr (.inr (.inr ⟨a,this.1.symm,d⟩))
theorem ResX.same{L:Nat}{A B:Wd}{v:Value}{pl er:Int}(h:ResX L A v pl er)(hs:∀k,k=L\/k=L+1\/k=L+2->B.heap[k]?=A.heap[k]?):ResX L B v pl er :=
 ⟨(hs L (.inl rfl)).trans h.l,(hs _ (.inr (.inl rfl))).trans h.p,(hs _ (.inr (.inr rfl))).trans h.e⟩
theorem JX.iter{w:Wd}{L B n0 g:Nat}(hw:w.heap.size<=L)(hL:L+2<g)(hg:g<n0)(hB:B=n0):IterJO n0 (fun k=>k=g) (FpX L) (JX w L B):=by
 subst hB;refine⟨fun n A C ⟨i,s,p,f,b,o⟩ d=>?_,fun n A k ⟨i,s,p,f,b,o⟩ c=>?_⟩
 ·have m:ResX L C (.slice p n.length f) 0 0:=b.same fun k c=>d.same k (by rcases c with rfl | rfl | rfl;exact hlt b.l;exact hlt b.p;exact hlt b.e) (.inl ⟨by omega,by omega⟩);have jO:∀a,p=some a->C.heap[a.block]?=A.heap[a.block]?:=fun a r=>by
   rcases o.inv with⟨rfl,_⟩ | ⟨t,q,rfl,_,j,_⟩
   ·cases r
   ·cases r
    exact d.same _ (hlt j) (.inr (.inr (.inr (.inr ⟨_,_,_,b.l,rfl⟩))))
  refine⟨⟨⟨d.os.trans i.os,d.tape.trans i.tape,d.output.trans i.output,UL i.size d.size,fun k c=>(d.same k (nL c i.size) (.inl ⟨by omega,by omega⟩)).trans (i.block k c)⟩,s,p,f,m,o.same jO⟩,fun k c=>?_⟩;rcases FpX.row m c with rfl | rfl | rfl | ⟨a,rfl,rfl⟩
  ·exact .inl rfl
  ·exact .inr (.inl rfl)
  ·exact .inr (.inr (.inl rfl))
  ·exact .inr (.inr (.inr ⟨_,_,_,b.l,rfl⟩))
 ·rcases FpX.row b c with rfl | rfl | rfl | ⟨a,rfl,rfl⟩
  ·exact⟨hlt b.l,by omega⟩
  ·exact⟨hlt b.p,by omega⟩
  ·exact⟨hlt b.e,by omega⟩
  ·rcases o.inv with⟨h,_⟩ | ⟨t,q,h,hB,j,_⟩
   ·cases h
   ·cases h
    exact⟨hlt j,by show ¬t=g;omega⟩
theorem JxX.iter{w:Wd}{L n0 g:Nat}(hw:w.heap.size<=L)(hL:L+2<g)(hg:g<n0):IterJO n0 (fun k=>k=g) (FpX L) (JxX w L):=by
 refine⟨fun m A C ⟨d,q,n,j,b,o⟩ f=>?_,fun m A k ⟨d,q,n,j,b,o⟩ c=>?_⟩
 ·have i:ResX L C (.slice none 0 0) n j:=b.same fun k c=>f.same k (by rcases c with rfl | rfl | rfl;exact hlt b.l;exact hlt b.p;exact hlt b.e) (.inl ⟨by omega,by omega⟩);refine⟨⟨⟨f.os.trans d.os,f.tape.trans d.tape,f.output.trans d.output,UL d.size f.size,fun k c=>(f.same k (nL c d.size) (.inl ⟨by omega,by omega⟩)).trans (d.block k c)⟩,q,n,j,i,o⟩,fun k c=>?_⟩;rcases FpX.row i c with rfl | rfl | rfl | ⟨a,h,_⟩
  ·exact .inl rfl
  ·exact .inr (.inl rfl)
  ·exact .inr (.inr (.inl rfl))
  ·cases h
 ·rcases FpX.row b c with rfl | rfl | rfl | ⟨a,h,_⟩
  ·exact⟨hlt b.l,by omega⟩
  ·exact⟨hlt b.p,by omega⟩
  ·exact⟨hlt b.e,by omega⟩
  ·cases h
abbrev nl0:Value := .slice none 0 0
theorem zyi(s:List UInt8)(hs:s.length<=140737488351232)(w:Wd) :
  Calls PG 170 #[qH s] w fun e w'=>∃p cap n pl er,e = .returned (.tuple #[.slice p n cap,i64 pl,i64 er])/\(zd7 s=true->er=0/\n=(jm s).length/\SlR jC w' p (jm s))/\(zd7 s=false->er≠0)/\Bw w w':=by
 refine qA 27 [qH s] (.c .p (.c .p .p)) Tryz.func170 ?_;obtain⟨L,hL⟩:=nm (w.heap.size);have z1:(w.alloc (.cells #[nl0] 255)).heap.size=L+1:=by rw[wz,hL]
 have z2:((w.alloc (.cells #[nl0] 255)).alloc (.cells #[i64 0] 3)).heap.size=L+2:=by rw[wz,z1]
 obtain⟨W0,ad⟩:=nm (((w.alloc (.cells #[nl0] 255)).alloc (.cells #[i64 0] 3)).alloc (.cells #[i64 0] 33));have ay:Bw w W0:=by rw[ad];exact(((zba _ _)).alloc (by simp) _).alloc (by rw[z2];omega) _
 have bh:W0.heap.size=L+3:=by rw[ad,wz,z2]
 have r0:ResX L W0 nl0 0 0:=by
  rw[ad];refine⟨?_,?_,?_⟩
  ·rw[hL];exact qO _ (qO _ (zt w _))
  ·rw[<- z1];exact qO _ (zt _ _)
  ·rw[<- z2];exact zt _ _
 have p1:some (Value.pointer (some ⟨(w.alloc (.cells #[nl0] 255)).heap.size,0,none⟩))=some (At0 (L+1)):=by rw[z1]
 have p2:some (Value.pointer (some ⟨((w.alloc (.cells #[nl0] 255)).alloc (.cells #[i64 0] 3)).heap.size,0,none⟩))=some (At0 (L+2)):=by rw[z2]
 have ai:∀(X:Wd) (v0:Value) (a0 b0:Int),ResX L X v0 a0 b0->∀(pl er:Int) (K:Wd->Prop),(∀Y,ResX L Y (.slice none 0 0) pl er->Below w.heap.size X Y->X.heap.size=Y.heap.size->(∀k,k≠L->k≠L+1->k≠L+2->Y.heap[k]?=X.heap[k]?)->K Y) ->
   SatR ((storeVar 255 ⟨L,0,none⟩ (.slice none 0 0)).run PG X) fun _ Y1=>SatR ((storeVar 3 ⟨L+1,0,none⟩ (i64 pl)).run PG Y1) fun _ Y2=>SatR ((storeVar 33 ⟨L+2,0,none⟩ (i64 er)).run PG Y2) fun _ Y3=>K Y3:=by
  intro X v0 a0 b0 f pl er K k;refine zp (v := .slice none 0 0) zu8 f.l rfl rfl rfl ?_;have q1:(X.setRow L (Value.slice none 0 0).cells).heap[L+1]?=some (.cells #[i64 a0] 3 (0,0)):=(zr (by omega)).trans f.p;refine zp (v:=i64 pl) k3 q1 rfl rfl rfl ?_;have q2:((X.setRow L (Value.slice none 0 0).cells).setRow (L+1) (i64 pl).cells).heap[L+2]?=some (.cells #[i64 b0] 33 (0,0)):=(zr (by omega)).trans ((zr (by omega)).trans f.e);refine zp (v:=i64 er) k33 q2 rfl rfl rfl (k _ ⟨?_,?_,zn q2⟩ ?_ (by simp) ?_)
  ·exact(zr (by omega)).trans ((zr (by omega)).trans (zn f.l))
  ·exact(zr (by omega)).trans (zn q1)
  ·exact zk (zk (zk (Gb _ X) (by omega) _) (by omega) _) (by omega) _
  ·intro k b z h3;exact(zr h3).trans ((zr z).trans (zr b))
 refine⟨Unit,fun _=>⟨[(0,qH s),(2,At0 L),(3,At0 (L+1)),(4,At0 (L+2))],[]⟩,fun _ X=>W0=X,?_,?_⟩
 ·exact⟨(),⟨.cons rfl (.cons (by rw[hL];rfl) (.cons p1 (.cons p2 .nil))),rfl⟩,ad⟩
 clear ad p1 p2 z1 z2;rintro _ _ rfl;refine⟨Unit,fun _=>⟨[(0,qH s),(2,At0 L),(3,At0 (L+1)),(4,At0 (L+2))],[]⟩,fun _ X=>s.length<=16384/\W0=X,?_,?_⟩
 ·refine biE (fun h=>?_) fun h=>?_
  ·have h:(16384:Int)<(s.length:Int):=dT h;have bb:zd7 s=false:=by unfold zd7;rw[Ue (by omega)];rfl
   exact ai W0 _ _ _ r0 0 3 _ fun Y hY hb bi _=>⟨_,zc (za hY.l) (i:=0) rfl,_,zc (za hY.p) (i:=0) rfl,_,zc (za hY.e) (i:=0) rfl,none,0,0,0,3,rfl,fun h=>(by rw[bb] at h;cases h),fun _=>by decide,ay.trans hb⟩
  ·have h:¬(16384:Int)<(s.length:Int):=dF h;exact⟨(),(cvE rfl rfl),by omega,rfl⟩
 rintro _ _ ⟨aw,rfl⟩;refine⟨[qH s,i64 0],rfl,[qH s,i64 0,.bool false],rfl,zo (X:=W0) (v := .agg #[qH s,i64 0,.bool false]) zyw rfl rfl rfl fun V a6 fV sV=>?_⟩;have hV:ScV V W0.heap.size s 0 false:=fV;refine cmo zr5 ?_;rintro e W1 ⟨rfl,aj⟩;have bq:W1.heap.size=W0.heap.size+2:=by rw[aj,wz,sV]
 have aq:Bw V W1:=by rw[aj];exact(zba _ _)
 have bd:W1.heap[W0.heap.size+1]?=some (.cells #[.pointer (some ⟨W0.heap.size,0,none⟩)] 380 (0,0)):=by
  rw[aj,<- sV];exact zt V _
 have a4:ScV W1 W0.heap.size s 0 false:=hV.below aq;have ah:Bw W0 W1:=zst a6 aq;have av:Bw w W1:=zst ay ah;have r1:ResX L W1 nl0 0 0:=r0.same fun k m=>ah.block k (by omega);have bg:(jm s).length<=40000:=UL zlV (by omega);have al:(∀t∈jm s,jI t=0)->zd7 s=true:=fun h=>by
  unfold zd7;rw[Up aw,Uv,Qg];exact fun t ht=>Up (h t ht)
 have am:(∃t∈jm s,jI t≠0)->zd7 s=false:=fun⟨t,ht,y⟩=>by
  unfold zd7;rw[Up aw,Uv,KL];exact⟨t,ht,by simpa using y⟩
 rw[sV];refine zwL (zgn _) rfl (lb := #[.pointer (some ⟨W0.heap.size+1,0,none⟩)]) rfl rfl (zqn a4 bd (by omega) hs) (UW _) (fun k m=>⟨by rcases m with rfl | rfl <;> omega,rfl⟩) (fun d vs W ⟨t,_,h⟩=>by rw[h];rfl) (by decide)
  (FpX L) (JX w L W1.heap.size) (fun ex d X=>ex = .ret/\JxX w L d X) ?_ (JX.iter (by omega) (by omega) (by omega) rfl) (fun ex=>?_) ?_ ?_ ?_ ?_
 ·intro k m y;rcases FpX.row r1 y with h | h | h | ⟨a,h,_⟩
  ·omega
  ·omega
  ·omega
  ·cases h
 ·have hJ:=JxX.iter (w:=w) (L:=L) (n0:=W1.heap.size) (g:=W0.heap.size) (by omega) (by omega) (by omega);exact⟨fun d A C ⟨b,z⟩ hs=>⟨⟨b,(hJ.step _ _ _ z hs).1⟩,(hJ.step _ _ _ z hs).2⟩,fun d A k ⟨_,z⟩ y=>hJ.lt _ _ _ z y⟩
 ·exact⟨av,fun t ht=>(by cases ht),none,0,r1,.nil⟩
 ·intro yl d x vs W bk aa hJ a8 bm bj;obtain⟨t,ht,rfl⟩:=a8;have ht:t=x:=by simpa using ht.symm
  subst ht;have a9:=JX.iter (w:=w) (L:=L) (B:=W1.heap.size) (n0:=W1.heap.size) (g:=W0.heap.size) (by omega) (by omega) (by omega) rfl;refine zo (X:=W) (v := .agg (jC.enc t).toArray) zmJ rfl rfl rfl fun R ap fR sR=>?_;have fR:R.heap[W.heap.size]?=some (.cells (jC.enc t).toArray 260 (0,0)):=fR;obtain⟨jR,qR⟩:=a9.step d W R hJ (Step.of_below ap).o;refine⟨rfl,Keeps.of_below ap (fun k m => .inl (qR k m)),jR,?_⟩;rintro o W2 ax ⟨r,ak,p,cap,f,ho⟩ bl;have f2:W2.heap[W.heap.size]?=some (.cells (jC.enc t).toArray 260 (0,0)):=by rw[ax,zj (by omega)];exact fR
  have s2:W2.heap.size=R.heap.size:=by rw[ax];simp[World.putObj]
  have bo:W1.heap.size<=W.heap.size:=by
   have:=hlt f.l;obtain⟨bf,_⟩:=hJ;omega
  refine biE (fun h=>?_) fun h=>?_
  ·have h:jI t≠0:=by
    have b:(!decide (jI t=0))=true:=h;simpa using b
   have ac:ResX L W2.drew (.slice p d.length cap) 0 0:=⟨f.l,f.p,f.e⟩;have hd:W2.drew.heap.size=W2.heap.size:=rfl;have az:∀Y,ResX L Y (.slice none 0 0) t.pos (jI t)->Below w.heap.size W2.drew Y->W2.drew.heap.size=Y.heap.size->(∀k,k≠L->k≠L+1->k≠L+2->Y.heap[k]?=W2.drew.heap[k]?)->(Exit.ret=Exit.ret/\JxX w L (d++[t]) Y)/\Keeps (FpX L) W2 Y:=fun Y hY af be a2=>by
    have au:Bw w Y:=r.trans ((Gb w.heap.size W2).drew.trans af);refine⟨⟨rfl,au,⟨t,by simp,h⟩,_,_,hY,h⟩,af.os,af.tape,af.output,by rw[<- be,hd];exact UW _,fun k m y=>a2 k (fun e=>y (.inl e)) (fun e=>y (.inr (.inl e))) (fun e=>y (.inr (.inr (.inl e)))),fun k m=>?_⟩;rcases FpX.row hY m with b | b | b | ⟨a,b,_⟩
    ·exact .inl (.inl b)
    ·exact .inl (.inr (.inl b))
    ·exact .inl (.inr (.inr (.inl b)))
    ·cases b
   refine DrawE.treeQ [3,4,5] (.op 0 (.op 2 (.alt (.op 3 (.op 1 (.op 4 (.op 5 .nil)))) (.op 1 (.op 3 (.op 4 (.op 5 .nil))))))) (by kernel_rfl) (Gf ?_ ?_)
   ·refine zp (v := .slice none 0 0) zu8 ac.l rfl rfl rfl ?_;have q0:(W2.drew.setRow L (Value.slice none 0 0).cells).heap[W.heap.size]?=some (.cells (jC.enc t).toArray 260 (0,0)):=(zr (by omega)).trans (hdr f2);refine⟨_,zc (za q0) (i:=2) rfl,?_⟩;have q1:(W2.drew.setRow L (Value.slice none 0 0).cells).heap[L+1]?=some (.cells #[i64 0] 3 (0,0)):=(zr (by omega)).trans ac.p;refine zp (v:=i64 t.pos) k3 q1 rfl rfl rfl ?_;have q2:((W2.drew.setRow L (Value.slice none 0 0).cells).setRow (L+1) (i64 t.pos).cells).heap[L+2]?=some (.cells #[i64 0] 33 (0,0)):=(zr (by omega)).trans ((zr (by omega)).trans ac.e);refine zp (v:=i64 (jI t)) k33 q2 rfl rfl rfl (az _ ⟨?_,?_,zn q2⟩ ?_ (by simp) ?_)
    ·exact(zr (by omega)).trans ((zr (by omega)).trans (zn ac.l))
    ·exact(zr (by omega)).trans (zn q1)
    ·exact zk (zk (zk (Gb _ W2.drew) (by omega) _) (by omega) _) (by omega) _
    ·intro k b z h3;exact(zr h3).trans ((zr z).trans (zr b))
   ·exact⟨_,zc (za (hdr f2)) (i:=2) rfl,ai W2.drew _ _ _ ac t.pos (jI t) _ az⟩
  ·have h:jI t=0:=by
    have b:(!decide (jI t=0))=false:=h;simpa using b
   refine⟨_,zc (za f.l) (i:=0) rfl,_,rfl,za f2,hlt f2,⟨by decide,by decide,rfl⟩,jC.enc t,zbs (jC.len t) rfl,?_⟩;have bp:d.length+1<=40000:=by
    have:=aa.length_le;simp at this;omega
   refine jG (E:=jC) (news:=[t]) (B:=W1.heap.size) Tryz.underlying255 zmJ rfl rfl rfl (ho.alloc _) rfl (q9 jC t) (by simp;omega) (by show d.length+1<=_;omega) (by show(d.length+1)*32<=_;omega) ?_;intro p3 j W4 an a3 ar bc;have bn:L<W2.heap.size:=hlt f.l;have a1:ResX L (W2.alloc (.cells (jC.enc t).toArray 260)) (.slice p d.length cap) 0 0:=⟨qO _ f.l,qO _ f.p,qO _ f.e⟩;have ag:ResX L W4 (.slice p d.length cap) 0 0:=a1.same fun k m=>ar.block k (by omega);refine zp (v := .slice p3 (d++[t]).length j) zu8 ag.l rfl rfl rfl ?_;have ao:ResX L (W4.setRow L (Value.slice p3 (d++[t]).length j).cells) (.slice p3 (d++[t]).length j) 0 0:=⟨zn ag.l,(zr (by omega)).trans ag.p,(zr (by omega)).trans ag.e⟩;have ab:Below w.heap.size W2 (W4.setRow L (Value.slice p3 (d++[t]).length j).cells) :=
    zk (((Gb _ W2).alloc (by omega) _).trans (ar.mono (by omega))) (by omega) _
   refine Gf ⟨r.trans ab,fun u hu=>?_,p3,j,ao,an.same fun a ha=>?_⟩ ⟨ab.os,ab.tape,ab.output,ab.size,fun k m y=>?_,fun k m=>?_⟩
   ·rcases QN.1 hu with hu | hu
    ·exact ak u hu
    ·simp only[KB] at hu;rw[hu];exact h
   ·refine zr ?_;rcases an.inv with⟨b,_⟩ | ⟨g',_,b,z,_⟩
    ·rw[b] at ha;cases ha
    ·rw[b] at ha;cases ha;dsimp only;omega
   ·have b:k≠L:=fun e=>y (.inl e);rw[zr b];refine(a3.block k (by simp;omega) ?_).trans ?_
    ·intro e
     cases p with
     | none=>simp [Value.ownBlock] at e
     | some a =>
      simp only[Value.ownBlock,KY] at e;exact y (.inr (.inr (.inr ⟨a,_,_,f.l,e⟩)))
    ·show(W2.heap.push _)[k]?=_;rw[Array.getElem?_push,Gm (Nat.ne_of_lt m)]
   ·rcases FpX.row ao m with b | b | b | ⟨a,ha,rfl⟩
    ·exact .inl (.inl b)
    ·exact .inl (.inr (.inl b))
    ·exact .inl (.inr (.inr (.inl b)))
    ·rcases bc a ha with b | b
     ·exact .inl (.inr (.inr (.inr ⟨a,_,_,b▸f.l,rfl⟩)))
     ·refine .inr ?_;rw[b];simp
 ·intro D W hD a7 hJ q;obtain⟨r,ak,p,cap,f,ho⟩:=hJ;refine⟨_,zc (za f.l) (i:=0) rfl,zp (v := .slice p (jm s).length cap) zu8 f.l rfl rfl rfl ?_⟩;have q1:(W.setRow L (Value.slice p (jm s).length cap).cells).heap[L+1]?=some (.cells #[i64 0] 3 (0,0)):=(zr (by omega)).trans f.p;refine zp (v:=i64 0) k3 q1 rfl rfl rfl ?_;have q2:((W.setRow L (Value.slice p (jm s).length cap).cells).setRow (L+1) (i64 0).cells).heap[L+2]?=some (.cells #[i64 0] 33 (0,0)):=(zr (by omega)).trans ((zr (by omega)).trans f.e);refine zp (v:=i64 0) k33 q2 rfl rfl rfl ?_;obtain⟨S,hS⟩:=nm (((W.setRow L (Value.slice p (jm s).length cap).cells).setRow (L+1) (i64 0).cells).setRow (L+2) (i64 0).cells);have rS:ResX L S (.slice p (jm s).length cap) 0 0:=by
   rw[hS];exact⟨(zr (by omega)).trans ((zr (by omega)).trans (zn f.l)),(zr (by omega)).trans (zn q1),zn q2⟩
  have bS:Below w.heap.size W S:=by rw[hS];exact zk (zk (zk (Gb _ W) (by omega) _) (by omega) _) (by omega) _
  have oS:∀k,k≠L->k≠L+1->k≠L+2->S.heap[k]?=W.heap[k]?:=fun k b z h3=>by rw[hS];exact(zr h3).trans ((zr z).trans (zr b))
  have dS:S.heap[D]?=some (.deferred (some [])):=(oS D (by omega) (by omega) (by omega)).trans q;rw[<- hS];refine⟨_,rfl,dS,?_⟩;have rP:ResX L (S.putObj D (.deferred none)) (.slice p (jm s).length cap) 0 0:=rS.same fun k m=>zj (by omega);refine⟨_,zc (za rP.l) (i:=0) rfl,_,zc (za rP.p) (i:=0) rfl,_,zc (za rP.e) (i:=0) rfl,p,cap,(jm s).length,0,0,rfl,fun _=>⟨rfl,rfl,?_⟩,fun h=>?_,qC (r.trans bS) (by omega) _⟩
  ·exact(ho.same fun a ha=>by
    have ae:a.block≠L/\a.block≠L+1/\a.block≠L+2/\a.block≠D:=by
     rcases ho.inv with⟨b,_⟩ | ⟨g',_,b,z,h3,_⟩
     ·rw[b] at ha;cases ha
     ·rw[b] at ha;cases ha;refine⟨by dsimp only;omega,by dsimp only;omega,by dsimp only;omega,fun e=>?_⟩;have e:g'=D:=e;rw[e,q] at h3;cases h3
    exact(zj ae.2.2.2).trans (oS _ ae.1 ae.2.1 ae.2.2.1)).row
  ·rw[al ak] at h;cases h
 ·rintro D ex d W hD a7 aa ⟨rfl,r,⟨t,ht,a5⟩,pl,er,f,ba⟩ q;refine⟨_,rfl,q,?_⟩;have rP:ResX L (W.putObj D (.deferred none)) (.slice none 0 0) pl er:=f.same fun k m=>zj (by omega);refine⟨_,zc (za rP.l) (i:=0) rfl,_,zc (za rP.p) (i:=0) rfl,_,zc (za rP.e) (i:=0) rfl,none,0,0,pl,er,rfl,fun h=>?_,fun _=>ba,qC r (by omega) _⟩;rw[am ⟨t,aa.subset ht,a5⟩] at h;cases h
theorem zta(s:List UInt8)(hs:s.length<=140737488351232)(w:Wd):CB 90 #[qH s] w (.bool (zeC s)):=by
 refine zD 34 [qH s] Tryz.func90 ?_;have a:zeC s=(zd7 s&&zr2 (jm s) s):=by
  unfold zeC zd7;rw[Bool.and_assoc]
 refine cmo (zyi s hs w) ?_;rintro e V ⟨p,r,n,pl,z,rfl,v,q,d⟩
 cases hk:zd7 s with
 | false =>
  have f:=q hk;rw[a,hk,Ug];exact brN (by exact Ue f) (brF (brF ⟨rfl,d⟩))
 | true =>
  obtain⟨rfl,rfl,m⟩:=v hk;rw[a,hk,Uv];refine brT (biE (fun h=>?_) fun h=>?_)
  ·have h:(jm s).length=2:=by have h:((jm s).length:Int)=2:=dT h;omega
   match hx:jm s,h with
   | [t,u],_ =>
    rw[hx] at m;obtain⟨b,o,rfl,x,c⟩:=m.at (i:=0) (by simp);have c:=c 0 (by simp);refine⟨0,rfl,(by show 0<2;omega),_,zc c (i:=0) rfl,?_⟩;have k:decide ((t.kind.toNat:Int)=1)=decide (t.kind=1):=(by rw[QC];exact qS (y:=1));refine biE (fun h=>?_) fun h=>?_
    ·have h:decide (t.kind=1)=true:=k.symm.trans h;exact⟨0,rfl,(by show 0<2;omega),_,zc c (i:=1) rfl,_,fun w=>jj _ _ t.text s w,rb (by unfold zr2;simp only[h,Uv]),d⟩
    ·have h:decide (t.kind=1)=false:=k.symm.trans h;exact⟨rb (by unfold zr2;simp only[h,Ug]),d⟩
  ·have h:¬(jm s).length=2:=by have h:¬((jm s).length:Int)=2:=dF h;omega
   refine brF ⟨rb ?_,d⟩;have j:∀l:List Tok,¬l.length=2->false=zr2 l s:=fun l g=>by
    match l,g with
    | [],_=>rfl
    | [_],_=>rfl
    | [_,_],g=>exact Gp rfl g
    | _::_::_::_,_=>rfl
   exact j _ h
theorem zxE(s:List UInt8)(w:Wd):Calls PG 231 #[qH s] w fun e w'=>e = .returned (.bool (ziQ s))/\w=w':=by
 refine zD 22 [qH s] Tryz.func231 ?_;refine⟨_,fun w=>jj _ _ s [116,101,115,116] w,?_⟩;refine biE (fun h=>?_) fun k=>?_
 ·refine brE h ?_;exact⟨rb (Qh.2 ⟨[116,101,115,116],by decide,h⟩).symm,rfl⟩
 refine⟨_,fun w=>jj _ _ s [105,110,105,116] w,?_⟩;refine biE (fun h=>?_) fun p=>?_
 ·refine brE h ?_;exact⟨rb (Qh.2 ⟨[105,110,105,116],by decide,h⟩).symm,rfl⟩
 refine⟨_,fun w=>jj _ _ s [116,104,114,101,97,100] w,?_⟩;refine biE (fun h=>?_) fun n=>?_
 ·refine brE h ?_;exact⟨rb (Qh.2 ⟨[116,104,114,101,97,100],by decide,h⟩).symm,rfl⟩
 refine⟨_,fun w=>jj _ _ s [115,111,109,101] w,?_⟩;refine biE (fun h=>?_) fun q=>?_
 ·refine brE h ?_;exact⟨rb (Qh.2 ⟨[115,111,109,101],by decide,h⟩).symm,rfl⟩
 refine⟨_,fun w=>jj _ _ s [110,111,110,101] w,?_⟩;refine biE (fun h=>?_) fun j=>?_
 ·refine brE h ?_;exact⟨rb (Qh.2 ⟨[110,111,110,101],by decide,h⟩).symm,rfl⟩
 refine⟨_,fun w=>jj _ _ s [97,108,108] w,?_⟩;refine biE (fun h=>?_) fun m=>?_
 ·refine brE h ?_;exact⟨rb (Qh.2 ⟨[97,108,108],by decide,h⟩).symm,rfl⟩
 refine⟨_,fun w=>jj _ _ s [97,99,113] w,?_⟩;refine biE (fun h=>?_) fun o=>?_
 ·refine brE h ?_;exact⟨rb (Qh.2 ⟨[97,99,113],by decide,h⟩).symm,rfl⟩
 refine⟨_,fun w=>jj _ _ s [114,101,108] w,?_⟩;refine biE (fun h=>?_) fun t=>?_
 ·refine brE h ?_;exact⟨rb (Qh.2 ⟨[114,101,108],by decide,h⟩).symm,rfl⟩
 refine⟨_,fun w=>jj _ _ s [115,119,97,112] w,?_⟩;refine biE (fun h=>?_) fun r=>?_
 ·refine brE h ?_;exact⟨rb (Qh.2 ⟨[115,119,97,112],by decide,h⟩).symm,rfl⟩
 refine⟨_,fun w=>jj _ _ s [102,101,116,99,104] w,?_⟩;refine biE (fun h=>?_) fun l=>?_
 ·refine brE h ?_;exact⟨rb (Qh.2 ⟨[102,101,116,99,104],by decide,h⟩).symm,rfl⟩
 refine⟨_,fun w=>jj _ _ s [99,97,115] w,?_⟩;refine biE (fun h=>?_) fun a=>?_
 ·refine brE h ?_;exact⟨rb (Qh.2 ⟨[99,97,115],by decide,h⟩).symm,rfl⟩
 refine⟨_,fun w=>jj _ _ s [102,101,110,99,101] w,?_⟩;refine biE (fun h=>?_) fun d=>?_
 ·refine brE h ?_;exact⟨rb (Qh.2 ⟨[102,101,110,99,101],by decide,h⟩).symm,rfl⟩
 refine⟨_,fun w=>jj _ _ s [108,111,97,100,115] w,?_⟩;refine biE (fun h=>?_) fun g=>?_
 ·refine brE h ?_;exact⟨rb (Qh.2 ⟨[108,111,97,100,115],by decide,h⟩).symm,rfl⟩
 refine⟨_,fun w=>jj _ _ s [115,116,111,114,101,115] w,?_⟩;refine biE (fun h=>?_) fun f=>?_
 ·refine brE h ?_;exact⟨rb (Qh.2 ⟨[115,116,111,114,101,115],by decide,h⟩).symm,rfl⟩
 refine⟨_,fun w=>jj _ _ s [115,107,105,112] w,?_⟩;refine biE (fun h=>?_) fun b=>?_
 ·refine brE h ?_;exact⟨rb (Qh.2 ⟨[115,107,105,112],by decide,h⟩).symm,rfl⟩
 refine⟨_,fun w=>jj _ _ s [105,102] w,?_⟩;refine biE (fun h=>?_) fun c=>?_
 ·refine brE h ?_;exact⟨rb (Qh.2 ⟨[105,102],by decide,h⟩).symm,rfl⟩
 refine⟨_,fun w=>jj _ _ s [116,114,117,101] w,?_⟩;refine biE (fun h=>?_) fun i=>?_
 ·exact⟨rb (Qh.2 ⟨[116,114,117,101],by decide,h⟩).symm,rfl⟩
 exact⟨rb (by unfold ziQ zwm;simp only[Uy,List.any_nil,k,p,n,q,j,m,o,t,r,l,a,d,g,f,b,c,i];rfl),rfl⟩
theorem zxB(s:List UInt8)(hs:s.length<=140737488351232)(w:Wd):Calls PG 171 #[qH s] w fun e w'=>e = .returned (.bool (zd3 s))/\w=w':=by
 refine qA 55 [qH s] (.s .p (.c .p (.s .p (.c .p .p)))) Tryz.func171 ?_;refine⟨Unit,fun _=>⟨[(0,qH s)],[]⟩,fun _ X=>(∃c r,s=c::r/\r.length+1<=16/\qF c=3/\ziQ s=false)/\w=X,?_,?_⟩
 ·refine biE (fun h=>?_) fun h=>?_
  ·have h:(s.length:Int)<1:=dT h;have h0:s=[]:=Jf (by omega);subst h0;refine brT ?_;refine brT ?_;refine brT ?_;exact⟨rfl,rfl⟩
  have h:¬(s.length:Int)<1:=dF h;obtain⟨c,r,rfl⟩:∃c r,s=c::r:=by
   cases s with
   | nil=>simp at h
   | cons c r=>exact⟨c,r,rfl⟩
  have a:zd3 (c::r)=(decide (r.length+1<=16)&&(decide (qF c=3)&&(!ziQ (c::r)&&(r.all qV&&(!decide (c=114)||(decide (jk r=0)||decide (jk r<r.length))))))):=rfl;have ab:(((bs (c::r)).size:Nat):Int)=(r.length+1:Nat):=rfl;refine biE (fun v=>?_) fun v=>?_
  ·have v:(16:Int)<((r.length+1:Nat):Int):=dT v;refine brT ?_;refine brT ?_;exact⟨rb (by rw[a,Ue (by omega)];rfl),rfl⟩
  have v:¬(16:Int)<((r.length+1:Nat):Int):=dF v;refine⟨0,rfl,Nat.succ_pos _,c,rfl,?_⟩;refine cmo (zao c _) ?_;rintro e _ ⟨rfl,rfl⟩;refine biE (fun j=>?_) fun j=>?_
  ·have j:¬qF c=3:=by
    have o:(!decide ((qF c:Int)=3))=true:=j;simp at o;omega
   refine brT ?_;exact⟨rb (by rw[a,Ue j];simp),rfl⟩
  have j:qF c=3:=by
   have o:(!decide ((qF c:Int)=3))=false:=j;simp at o;omega
  refine cmo (zxE (c::r) _) ?_;rintro e _ ⟨rfl,rfl⟩;refine biE (fun l=>?_) fun l=>?_
  ·have l:ziQ (c::r)=true:=l;exact⟨rb (by rw[a,l];simp),rfl⟩
  ·exact⟨(),(cvE rfl rfl),⟨c,r,rfl,by omega,j,l⟩,rfl⟩
 rintro _ _ ⟨⟨c,r,rfl,o,j,l⟩,rfl⟩;have a:zd3 (c::r)=(r.all qV&&(!decide (c=114)||(decide (jk r=0)||decide (jk r<r.length)))):=by
  show(decide (r.length+1<=16)&&(decide (qF c=3)&&(!ziQ (c::r)&&(r.all qV&&(!decide (c=114)||(decide (jk r=0)||decide (jk r<r.length)))))))=_;rw[Up o,Up j,l];rfl
 rw[a];refine⟨Unit,fun _=>⟨[(0,qH (c::r)),(3,i64 (jk r:Nat))],[]⟩,fun _ X=>r.all qV=true/\w=X,?_,?_⟩
 ·refine⟨Nat,fun k=>⟨[(0,qH (c::r)),(3,i64 (jk (r.take k):Nat)),(4,i64 (k+1:Nat))],[]⟩,fun k X=>k<=r.length/\(∀d∈r.take k,qV d=true)/\jk (r.take k)<=k/\w=X,fun k=>r.length-k,0,(cvE rfl rfl),⟨UZ _,by simp,UW _,rfl⟩,?_⟩;rintro k _ ⟨hk,hw,aa,rfl⟩;dsimp only at hk hw aa ⊢;refine biE (fun x=>?_) fun x=>?_
  ·have x:((k+1:Nat):Int)<((r.length+1:Nat):Int):=dT x;have u:k<r.length:=by omega
   have q:(bs (c::r)).data.toList[k+1]?=some r[k]:=by
    show(c::r)[k+1]?=_;rw[Ju,gE u]
   refine⟨k+1,rfl,(by show k+1<r.length+1;omega),r[k],q,?_⟩;refine cmo (zmM _ _) ?_;rintro e _ ⟨rfl,rfl⟩;refine biE (fun f=>?_) fun f=>?_
   ·have f:(!qV r[k])=true:=f;have f:qV r[k]=false:=(by simpa using f);have:r.all qV=false:=by
     rw[KL];exact⟨r[k],gM _,by rw[f];simp⟩
    exact⟨rb (by rw[this];rfl),rfl⟩
   have f:(!qV r[k])=false:=f;have f:qV r[k]=true:=by simpa using f
   have z:∀d∈r.take (k+1),qV d=true:=by
    rw[tsg u];intro d i;rcases QN.1 i with i | i
    ·exact hw d i
    ·simp only[KB] at i;rw[i];exact f
   have m:jk (r.take (k+1))=jk (r.take k)+(if zbX r[k]=true then 1 else 0):=by
    unfold jk;rw[tsg u,Kw,lap];congr 1;by_cases h:zbX r[k]=true
    ·rw[Gn h,List.filter_cons_of_pos h];rfl
    ·rw[Gm h,List.filter_cons_of_neg h];rfl
   refine⟨k+1,rfl,(by show k+1<r.length+1;omega),r[k],q,?_⟩;refine cmo (zao _ _) ?_;rintro e _ ⟨rfl,rfl⟩;have i:decide ((qF r[k]:Int)=4)=zbX r[k]:=zcF (b:=4);refine biE (fun n=>?_) fun n=>?_
   ·have n:zbX r[k]=true:=i.symm.trans n;rw[Gn n] at m;refine⟨(jk (r.take (k+1)):Int),(ze (by omega)).trans (by omega),?_⟩;refine⟨((k+1+1:Nat):Int),(ze (by omega)).trans (by omega),?_⟩;exact⟨k+1,(cvE rfl rfl),⟨u,z,by omega,rfl⟩,zdc (by omega)⟩
   ·have n:¬zbX r[k]=true:=(by rw[Qf];exact i.symm.trans n);rw[Gm n] at m;refine⟨((k+1+1:Nat):Int),(ze (by omega)).trans (by omega),?_⟩;exact⟨k+1,⟨.cons rfl (.cons (by rw[m];rfl) (.cons rfl .nil)),rfl⟩,⟨u,z,by omega,rfl⟩,zdc (by omega)⟩
  ·have x:¬((k+1:Nat):Int)<((r.length+1:Nat):Int):=dF x;obtain rfl:k=r.length:=by omega
   rw[Qt] at hw;exact⟨(),⟨.cons rfl (.cons (by rw[Qt];rfl) .nil),rfl⟩,Qg.2 hw,rfl⟩
 rintro _ _ ⟨t,rfl⟩;rw[t,Uv];have ac:jk r<=r.length:=JK _ _;refine⟨0,rfl,Nat.succ_pos _,c,rfl,?_⟩;have cd:decide ((c.toNat:Int)=114)=decide (c=114):=by rw[QC];exact qS (y:=114)
 refine biE (fun h=>?_) fun h=>?_
 ·have h:(!decide (c=114))=true:=by
   have h:(!decide ((c.toNat:Int)=114))=true:=h
   rwa [cd] at h
  refine brT ?_;exact⟨rb (by rw[h];rfl),rfl⟩
 have h:(!decide (c=114))=false:=by
  have h:(!decide ((c.toNat:Int)=114))=false:=h
  rwa [cd] at h
 rw[h,Us];refine biE (fun g=>?_) fun g=>?_
 ·have g:jk r=0:=by have g:(jk r:Int)=0:=dT g;omega
  exact⟨rb (by rw[Up g];rfl),rfl⟩
 have g:¬jk r=0:=by have g:¬(jk r:Int)=0:=dF g;omega
 refine⟨(r.length:Nat),(ze (by show -9223372036854775808<=((r.length+1:Nat):Int)-1/\((r.length+1:Nat):Int)-1<=9223372036854775807;omega)).trans (by show((r.length+1:Nat):Int)-1=_;omega),?_⟩;exact⟨rb (by rw[Ue g,Us,QC];omega),rfl⟩
theorem zv9(p:OA)(cap:Nat)(l:List (List UInt8))(s:List UInt8)(w:Wd)(hl:SlR zgF w p l)(hn:l.length<=140737488351232) :
  Calls PG 233 #[.slice p l.length cap,qH s] w fun e w'=>∃n:Int,e = .returned (i64 n)/\decide (0<=n)=l.any (fun q=>decide (q=s))/\w=w':=by
 refine zD 19 [.slice p l.length cap,qH s] Tryz.func233 ?_;refine⟨Nat,fun k=>⟨[(0,.slice p l.length cap),(1,qH s),(7,i64 l.length),(8,i64 (k:Nat))],[]⟩,fun k X=>k<=l.length/\(∀q∈l.take k,¬q=s)/\w=X,fun k=>l.length-k,0,(cvE rfl rfl),⟨UZ _,by simp,rfl⟩,?_⟩;rintro k _ ⟨hk,hno,rfl⟩;dsimp only at hk hno ⊢;refine biE (fun hc=>?_) fun hc=>?_
 ·have hc:(k:Int)<(l.length:Int):=dT hc;have hkl:k<l.length:=by omega
  obtain⟨b,o,rfl,hb,hat⟩:=hl.at hkl;refine⟨k,rfl,hkl,?_⟩;refine⟨_,zc (hat k hkl) (i:=0) rfl,?_⟩;refine⟨_,fun w=>jj _ _ s l[k] w,?_⟩;refine biE (fun h=>?_) fun h=>?_
  ·have h:s=l[k]:=dT h;refine⟨k,rfl,?_,rfl⟩;rw[Up (by omega)];symm;rw[Qh];exact⟨l[k],gM _,Up h.symm⟩
  ·have h:¬s=l[k]:=dF h;refine⟨(k+1:Nat),(ze (by omega)).trans (by omega),?_⟩;refine⟨k+1,(cvE rfl rfl),⟨hkl,?_,rfl⟩,zdc (by omega)⟩;rw[tsg hkl];intro q hq;rcases QN.1 hq with hq | hq
   ·exact hno q hq
   ·simp only[KB] at hq;rw[hq];exact fun e=>h e.symm
 ·have hc:¬(k:Int)<(l.length:Int):=dF hc;obtain rfl:k=l.length:=by omega
  rw[Qt] at hno;refine⟨-1,rfl,?_,rfl⟩;symm;show _=false;rw[KM];exact fun q hq=>by simpa using hno q hq
theorem zoP(p:OA)(cap:Nat)(l:List (List UInt8))(s:List UInt8)(w:Wd)(hl:SlR zgF w p l)(hn:l.length<=140737488351232) :
  Calls PG 172 #[.slice p l.length cap,qH s] w fun e w'=>e = .returned (.bool (l.any fun q=>decide (q=s)))/\w=w':=by
 refine zD 9 [.slice p l.length cap,qH s] Tryz.func172 ?_;refine cmo (zv9 p cap l s w hl hn) ?_;rintro e _ ⟨n,rfl,h,rfl⟩;exact⟨rb h,rfl⟩
def GlobC (w:Wd):Prop:=zI w ⟨3,0,none⟩ (zfI.map u8)
theorem GlobC.below{w w2:Wd}(h:GlobC w)(hb:Bw w w2):GlobC w2:=zw hb h
def spC (x:InsD) (locs after:Nat):List Value:=[u8 x.op,u8 x.dst,u8 x.loc,.bool x.ar,u8 x.an,.bool x.br,u8 x.bn,u8 x.fn,u8 x.mode,u8 x.skip,i64 locs,i64 after]
theorem u8d(x k:UInt8):decide ((x.toNat:Int)=(k.toNat:Int))=decide (x=k):=by rw[QC];exact qS
theorem zwA(a b:UInt8):IntKind.u8.wrap ((BitVec.ofInt IntKind.u8.bits (a.toNat:Int)&&&BitVec.ofInt IntKind.u8.bits (b.toNat:Int)).toNat:Int)=((a&&&b).toNat:Int):=by
 have h:∀x:UInt8,BitVec.ofInt 8 (x.toNat:Int)=x.toBitVec:=fun x=>by
  apply BitVec.eq_of_toNat_eq;rw[Kt];have:=x.toNat_lt;show((x.toNat:Int)%(2^8:Nat)).toNat=x.toNat;omega
 show IntKind.u8.wrap ((BitVec.ofInt 8 (a.toNat:Int)&&&BitVec.ofInt 8 (b.toNat:Int)).toNat:Int)=_;rw[h,h];have e:(a.toBitVec&&&b.toBitVec).toNat=(a&&&b).toNat:=rfl;rw[e];have:=(a&&&b).toNat_lt;exact zfq (by omega)
theorem zfQ{g locs after:Nat}{x:InsD}{w:Wd}(bit:UInt8)(h:zI w ⟨g,0,none⟩ (spC x locs after))(hop:x.op.toNat<=8)(hG:GlobC w) :
  Calls PG 239 #[At0 g,u8 bit] w fun e w'=>e = .returned (.bool (jW x.op bit))/\w=w':=by
 refine zD 15 [At0 g,u8 bit] Tryz.func239 ?_;refine⟨_,zc h (i:=0) rfl,x.op.toNat,rfl,(by show x.op.toNat<9;omega),?_⟩;have b:(zfI.map u8)[x.op.toNat]?=some (u8 (zfI.getD x.op.toNat 0)):=by
  have a:x.op.toNat<zfI.length:=by show _<9;omega
  rw[KT,gE a,gDe,gE a];rfl
 refine⟨u8 (zfI.getD x.op.toNat 0),by rw[UX];exact zc hG b,?_⟩;exact⟨((zfI.getD x.op.toNat 0&&&bit).toNat:Int),zwA _ _,rb (by unfold jW;rw[<- u8d];rfl),rfl⟩
theorem zjm(r:Bool)(n:UInt8)(w:Wd):CB 241 #[.agg #[.bool r,u8 n]] w (.bool (zlG r n)):=by
 refine zD 11 [.agg #[.bool r,u8 n]] Tryz.func241 ?_;have a:Bw w (w.alloc (.cells #[.bool r,u8 n] 66)):=zba _ _;have b:=za (zt w (.cells #[.bool r,u8 n] 66));refine⟨_,zc b (i:=0) rfl,?_⟩
 cases r with
 | false =>
  exact brT ⟨rfl,a⟩
 | true =>
  refine brF ⟨_,zc b (i:=1) rfl,rb ?_,a⟩;show decide ((n.toNat:Int)<8)=decide (n.toNat<8);rw[QC];omega
theorem zmz{g locs after:Nat}{x:InsD}{w:Wd}(h:zI w ⟨g,0,none⟩ (spC x locs after)) :
  Calls PG 242 #[At0 g] w fun e w'=>e = .returned (.bool (zfK x))/\w=w':=by
 refine zD 64 [At0 g] Tryz.func242 ?_;refine⟨_,zc h (i:=0) rfl,biE (fun b=>?_) fun b=>?_⟩
 ·have b:x.op=1:=dT ((u8d x.op 1).symm.trans b);have e:zfK x=(decide (x.mode=0)||decide (x.mode=1)):=by unfold zfK;rw[Gn b]
  rw[e,<- u8d,<- u8d];refine⟨_,zc h (i:=8) rfl,biE (fun a=>?_) fun a=>?_⟩
  ·exact⟨rb (by have a:decide ((x.mode.toNat:Int)=((0:UInt8).toNat:Int))=true:=a;rw[a];rfl),rfl⟩
  ·exact⟨_,zc h (i:=8) rfl,rb (by have a:decide ((x.mode.toNat:Int)=((0:UInt8).toNat:Int))=false:=a;rw[a];rfl),rfl⟩
 have b:¬x.op=1:=dF ((u8d x.op 1).symm.trans b);refine biE (fun a=>?_) fun a=>?_
 ·have a:x.op=2:=dT ((u8d x.op 2).symm.trans a);have e:zfK x=(decide (x.mode=0)||decide (x.mode=2)):=by unfold zfK;rw[Gm b,Gn a]
  rw[e,<- u8d,<- u8d];refine⟨_,zc h (i:=8) rfl,biE (fun a=>?_) fun a=>?_⟩
  ·exact⟨rb (by have a:decide ((x.mode.toNat:Int)=((0:UInt8).toNat:Int))=true:=a;rw[a];rfl),rfl⟩
  ·exact⟨_,zc h (i:=8) rfl,rb (by have a:decide ((x.mode.toNat:Int)=((0:UInt8).toNat:Int))=false:=a;rw[a];rfl),rfl⟩
 have a:¬x.op=2:=dF ((u8d x.op 2).symm.trans a);refine biE (fun f=>?_) fun f=>?_
 ·have f:x.op=7:=dT ((u8d x.op 7).symm.trans f);have e:zfK x=(decide (x.mode=3)||(decide (x.mode=4)||decide (x.mode=5))):=by unfold zfK;rw[Gm b,Gm a,Gn f]
  rw[e,<- u8d,<- u8d,<- u8d];refine⟨_,zc h (i:=8) rfl,biE (fun c=>?_) fun c=>?_⟩
  ·exact brT ⟨rb (by have c:decide ((x.mode.toNat:Int)=((3:UInt8).toNat:Int))=true:=c;rw[c];rfl),rfl⟩
  have c:decide ((x.mode.toNat:Int)=((3:UInt8).toNat:Int))=false:=c;refine⟨_,zc h (i:=8) rfl,biE (fun d=>?_) fun d=>?_⟩
  ·exact⟨rb (by have d:decide ((x.mode.toNat:Int)=((4:UInt8).toNat:Int))=true:=d;rw[c,d];rfl),rfl⟩
  have d:decide ((x.mode.toNat:Int)=((4:UInt8).toNat:Int))=false:=d;exact⟨_,zc h (i:=8) rfl,rb (by rw[c,d];rfl),rfl⟩
 have f:¬x.op=7:=dF ((u8d x.op 7).symm.trans f);exact⟨rb (by unfold zfK;rw[Gm b,Gm a,Gm f]),rfl⟩
theorem zre{g locs after:Nat}{x:InsD}{w:Wd}(h:zI w ⟨g,0,none⟩ (spC x locs after)) :
  Calls PG 243 #[At0 g] w fun e w'=>e = .returned (.bool (fnL x))/\w=w':=by
 refine zD 56 [At0 g] Tryz.func243 ?_;refine⟨_,zc h (i:=0) rfl,biE (fun c=>?_) fun c=>?_⟩
 ·have c:x.op=3:=dT ((u8d x.op 3).symm.trans c);have e:fnL x=(decide (x.fn=1)||(decide (x.fn=2)||decide (x.fn=3))):=by unfold fnL;rw[Gn c]
  rw[e,<- u8d,<- u8d,<- u8d];refine⟨_,zc h (i:=7) rfl,biE (fun a=>?_) fun a=>?_⟩
  ·exact brT ⟨rb (by have a:decide ((x.fn.toNat:Int)=((1:UInt8).toNat:Int))=true:=a;rw[a];rfl),rfl⟩
  have a:decide ((x.fn.toNat:Int)=((1:UInt8).toNat:Int))=false:=a;refine⟨_,zc h (i:=7) rfl,biE (fun b=>?_) fun b=>?_⟩
  ·exact⟨rb (by have b:decide ((x.fn.toNat:Int)=((2:UInt8).toNat:Int))=true:=b;rw[a,b];rfl),rfl⟩
  have b:decide ((x.fn.toNat:Int)=((2:UInt8).toNat:Int))=false:=b;exact⟨_,zc h (i:=7) rfl,rb (by rw[a,b];rfl),rfl⟩
 have c:¬x.op=3:=dF ((u8d x.op 3).symm.trans c);refine biE (fun d=>?_) fun d=>?_
 ·have d:x.op=8:=dT ((u8d x.op 8).symm.trans d);have e:fnL x=(decide (x.fn=4)||(decide (x.fn=5)||decide (x.fn=6))):=by unfold fnL;rw[Gm c,Gn d]
  rw[e,<- u8d,<- u8d,<- u8d];refine⟨_,zc h (i:=7) rfl,biE (fun a=>?_) fun a=>?_⟩
  ·exact brT ⟨rb (by have a:decide ((x.fn.toNat:Int)=((4:UInt8).toNat:Int))=true:=a;rw[a];rfl),rfl⟩
  have a:decide ((x.fn.toNat:Int)=((4:UInt8).toNat:Int))=false:=a;refine⟨_,zc h (i:=7) rfl,biE (fun b=>?_) fun b=>?_⟩
  ·exact⟨rb (by have b:decide ((x.fn.toNat:Int)=((5:UInt8).toNat:Int))=true:=b;rw[a,b];rfl),rfl⟩
  have b:decide ((x.fn.toNat:Int)=((5:UInt8).toNat:Int))=false:=b;exact⟨_,zc h (i:=7) rfl,rb (by rw[a,b];rfl),rfl⟩
 have d:¬x.op=8:=dF ((u8d x.op 8).symm.trans d);exact⟨rb (by unfold fnL;rw[Gm c,Gm d]),rfl⟩
set_option maxRecDepth 4000
def zun:InsD:=⟨0,0,0,false,0,false,0,0,0,0⟩
def nd0 (x:InsD):InsD:={ zun with op:=x.op }
def nd1 (x:InsD):InsD:={ nd0 x with dst:=if jW x.op 1 then x.dst else 0 }
def nd2 (x:InsD):InsD:={ nd1 x with loc:=if jW x.op 2 then x.loc else 0 }
def nd3 (x:InsD):InsD:={ nd2 x with ar:=jW x.op 4&&x.ar,an:=if jW x.op 4 then x.an else 0 }
def nd4 (x:InsD):InsD:={ nd3 x with br:=jW x.op 8&&x.br,bn:=if jW x.op 8 then x.bn else 0 }
def nd5 (x:InsD):InsD:={ nd4 x with fn:=if jW x.op 16 then x.fn else 0 }
def nd6 (x:InsD):InsD:={ nd5 x with mode:=if jW x.op 32 then x.mode else 0 }
def nd7 (x:InsD):InsD:={ nd6 x with skip:=if jW x.op 64 then x.skip else 0 }
theorem zsL{g locs after:Nat}{x:InsD}{w:Wd}(h:zI w ⟨g,0,none⟩ (spC x locs after))(hg:g<w.heap.size)(hop:x.op.toNat<=8)(hG:GlobC w) :
  CB 236 #[At0 g] w (.agg (zU.enc (zhH x)).toArray):=by
 refine qA 67 [At0 g] (.s .p (.c .p (.c .p (.c .p (.c .p (.c .p (.c .p (.c .p (.c .p .p))))))))) Tryz.func236 ?_;obtain⟨r,hr⟩:=nm (w.heap.size);obtain⟨W0,aa⟩:=nm (w.alloc (.cells (zU.enc zun).toArray 68));have ab:Bw w W0:=by rw[aa];exact(zba _ _)
 have f0:W0.heap[r]?=some (.cells (zU.enc zun).toArray 68 (0,0)):=by rw[aa,hr];exact zt w _
 have s0:W0.heap.size=r+1:=by rw[aa,wz,hr]
 let Good:InsD->Wd->Prop:=fun y X=>Bw w X/\X.heap[r]?=some (.cells (zU.enc zun).toArray 68 (0,0))/\X.heap[r+1]?=some (.cells (zU.enc y).toArray 68 (0,0))
 have good:∀y X,Good y X->zI X ⟨g,0,none⟩ (spC x locs after)/\GlobC X/\g<X.heap.size:=fun y X ⟨hb,_,_⟩=>⟨jP hb hg h,hG.below hb,by have:=hb.size;omega⟩;have f:∀y z X Y,Good y X->X.grownBy Y (some (r+1))->Y.heap[r+1]?=some (.cells (zU.enc z).toArray 68 (0,0))->Good z Y:=fun y z X Y ⟨hb,h1,h2⟩ ac h3 =>
  ⟨hb.grown ac hb.size (fun k e=>by simp only[KY] at e;omega),(ac.block _ (hlt h1) (fun e=>by simp only[KY] at e;omega)).trans h1,h3⟩
 have u:∀Y,Bw W0 Y->Y.heap[W0.heap.size]?=some (.cells (Value.agg (zU.enc (nd0 x)).toArray).cells 68 (0,0))->Good (nd0 x) Y:=fun Y b fY =>
  ⟨(zst ab b),zb b f0,by rw[<- s0];exact fY⟩
 have h0:zI W0 ⟨g,0,none⟩ (spC x locs after):=jP ab hg h;have p2:some (Value.pointer (some ⟨w.heap.size,0,none⟩))=some (At0 r):=by rw[hr]
 have p3:some (Value.pointer (some ⟨W0.heap.size,0,none⟩))=some (At0 (r+1)):=by rw[s0]
 refine⟨Unit,fun _=>⟨[(0,At0 g),(2,At0 r),(3,At0 (r+1))],[]⟩,fun _ X=>Good (nd0 x) X,?_,?_⟩
 ·subst aa;exact⟨_,zc h0 (i:=0) rfl,zU.enc (nd0 x),rfl,zo (v := .agg (zU.enc (nd0 x)).toArray) k68 rfl rfl rfl fun Y ad fY sY=>⟨(),⟨.cons rfl (.cons p2 (.cons p3 .nil)),rfl⟩,u Y ad fY⟩⟩
 clear u h0 f0 ab p2 p3 s0;rintro _ Y b;refine⟨Unit,fun _=>⟨[(0,At0 g),(2,At0 r),(3,At0 (r+1))],[]⟩,fun _ X=>Good (nd1 x) X,?_,?_⟩
 ·obtain⟨j,d,l⟩:=good _ Y b;refine cmo (zfQ 1 j hop d) ?_;rintro e _ ⟨rfl,rfl⟩;refine biE (fun a=>?_) fun a=>?_
  ·have a:jW x.op 1=true:=a;have e:nd1 x={ nd0 x with dst:=x.dst }:=by unfold nd1;rw[Gn a]
   exact⟨_,zc j (i:=1) rfl,jn k5 rfl (b.2.2) (o:=1) (by show 1<10;omega) (v:=u8 x.dst) rfl rfl fun Z q t sZ=>⟨(),(cvE rfl rfl),f _ _ Y Z b t (by rw[e];exact q)⟩⟩
  ·have a:jW x.op 1=false:=a;have e:nd1 x=nd0 x:=by unfold nd1;rw[Gm (by rw[a];decide)];rfl
   exact⟨(),(cvE rfl rfl),by rw[e];exact b⟩
 clear b Y;rintro _ Y b;refine⟨Unit,fun _=>⟨[(0,At0 g),(2,At0 r),(3,At0 (r+1))],[]⟩,fun _ X=>Good (nd2 x) X,?_,?_⟩
 ·obtain⟨j,d,l⟩:=good _ Y b;refine cmo (zfQ 2 j hop d) ?_;rintro e _ ⟨rfl,rfl⟩;refine biE (fun a=>?_) fun a=>?_
  ·have a:jW x.op 2=true:=a;have e:nd2 x={ nd1 x with loc:=x.loc }:=by unfold nd2;rw[Gn a]
   exact⟨_,zc j (i:=2) rfl,jn k5 rfl (b.2.2) (o:=2) (by show 2<10;omega) (v:=u8 x.loc) rfl rfl fun Z q t sZ=>⟨(),(cvE rfl rfl),f _ _ Y Z b t (by rw[e];exact q)⟩⟩
  ·have a:jW x.op 2=false:=a;have e:nd2 x=nd1 x:=by unfold nd2;rw[Gm (by rw[a];decide)];rfl
   exact⟨(),(cvE rfl rfl),by rw[e];exact b⟩
 clear b Y;rintro _ Y b;refine⟨Unit,fun _=>⟨[(0,At0 g),(2,At0 r),(3,At0 (r+1))],[]⟩,fun _ X=>Good (nd3 x) X,?_,?_⟩
 ·obtain⟨j,d,l⟩:=good _ Y b;refine cmo (zfQ 4 j hop d) ?_;rintro e _ ⟨rfl,rfl⟩;refine biE (fun a=>?_) fun a=>?_
  ·have a:jW x.op 4=true:=a;have e:nd3 x={ nd2 x with ar:=x.ar,an:=x.an }:=by unfold nd3;rw[a,Uv,Gn rfl]
   exact⟨[.bool x.ar,u8 x.an],rfl,zP (n:=3) (m:=2) j,l,zad k66 b.2.2 (o:=3) (v := .agg #[.bool x.ar,u8 x.an]) rfl (by show 3+2<=10;omega) rfl fun Z q t sZ=>⟨(),(cvE rfl rfl),f _ _ Y Z b t (by rw[e];exact q)⟩⟩
  ·have a:jW x.op 4=false:=a;have e:nd3 x=nd2 x:=by unfold nd3;rw[a,Ug,Gm (by decide)];rfl
   exact⟨(),(cvE rfl rfl),by rw[e];exact b⟩
 clear b Y;rintro _ Y b;refine⟨Unit,fun _=>⟨[(0,At0 g),(2,At0 r),(3,At0 (r+1))],[]⟩,fun _ X=>Good (nd4 x) X,?_,?_⟩
 ·obtain⟨j,d,l⟩:=good _ Y b;refine cmo (zfQ 8 j hop d) ?_;rintro e _ ⟨rfl,rfl⟩;refine biE (fun a=>?_) fun a=>?_
  ·have a:jW x.op 8=true:=a;have e:nd4 x={ nd3 x with br:=x.br,bn:=x.bn }:=by unfold nd4;rw[a,Uv,Gn rfl]
   exact⟨[.bool x.br,u8 x.bn],rfl,zP (n:=5) (m:=2) j,l,zad k66 b.2.2 (o:=5) (v := .agg #[.bool x.br,u8 x.bn]) rfl (by show 5+2<=10;omega) rfl fun Z q t sZ=>⟨(),(cvE rfl rfl),f _ _ Y Z b t (by rw[e];exact q)⟩⟩
  ·have a:jW x.op 8=false:=a;have e:nd4 x=nd3 x:=by unfold nd4;rw[a,Ug,Gm (by decide)];rfl
   exact⟨(),(cvE rfl rfl),by rw[e];exact b⟩
 clear b Y;rintro _ Y b;refine⟨Unit,fun _=>⟨[(0,At0 g),(2,At0 r),(3,At0 (r+1))],[]⟩,fun _ X=>Good (nd5 x) X,?_,?_⟩
 ·obtain⟨j,d,l⟩:=good _ Y b;refine cmo (zfQ 16 j hop d) ?_;rintro e _ ⟨rfl,rfl⟩;refine biE (fun a=>?_) fun a=>?_
  ·have a:jW x.op 16=true:=a;have e:nd5 x={ nd4 x with fn:=x.fn }:=by unfold nd5;rw[Gn a]
   exact⟨_,zc j (i:=7) rfl,jn k5 rfl (b.2.2) (o:=7) (by show 7<10;omega) (v:=u8 x.fn) rfl rfl fun Z q t sZ=>⟨(),(cvE rfl rfl),f _ _ Y Z b t (by rw[e];exact q)⟩⟩
  ·have a:jW x.op 16=false:=a;have e:nd5 x=nd4 x:=by unfold nd5;rw[Gm (by rw[a];decide)];rfl
   exact⟨(),(cvE rfl rfl),by rw[e];exact b⟩
 clear b Y;rintro _ Y b;refine⟨Unit,fun _=>⟨[(0,At0 g),(2,At0 r),(3,At0 (r+1))],[]⟩,fun _ X=>Good (nd6 x) X,?_,?_⟩
 ·obtain⟨j,d,l⟩:=good _ Y b;refine cmo (zfQ 32 j hop d) ?_;rintro e _ ⟨rfl,rfl⟩;refine biE (fun a=>?_) fun a=>?_
  ·have a:jW x.op 32=true:=a;have e:nd6 x={ nd5 x with mode:=x.mode }:=by unfold nd6;rw[Gn a]
   exact⟨_,zc j (i:=8) rfl,jn k5 rfl (b.2.2) (o:=8) (by show 8<10;omega) (v:=u8 x.mode) rfl rfl fun Z q t sZ=>⟨(),(cvE rfl rfl),f _ _ Y Z b t (by rw[e];exact q)⟩⟩
  ·have a:jW x.op 32=false:=a;have e:nd6 x=nd5 x:=by unfold nd6;rw[Gm (by rw[a];decide)];rfl
   exact⟨(),(cvE rfl rfl),by rw[e];exact b⟩
 clear b Y;rintro _ Y b;refine⟨Unit,fun _=>⟨[(0,At0 g),(2,At0 r),(3,At0 (r+1))],[]⟩,fun _ X=>Good (nd7 x) X,?_,?_⟩
 ·obtain⟨j,d,l⟩:=good _ Y b;refine cmo (zfQ 64 j hop d) ?_;rintro e _ ⟨rfl,rfl⟩;refine biE (fun a=>?_) fun a=>?_
  ·have a:jW x.op 64=true:=a;have e:nd7 x={ nd6 x with skip:=x.skip }:=by unfold nd7;rw[Gn a]
   exact⟨_,zc j (i:=9) rfl,jn k5 rfl (b.2.2) (o:=9) (by show 9<10;omega) (v:=u8 x.skip) rfl rfl fun Z q t sZ=>⟨(),(cvE rfl rfl),f _ _ Y Z b t (by rw[e];exact q)⟩⟩
  ·have a:jW x.op 64=false:=a;have e:nd7 x=nd6 x:=by unfold nd7;rw[Gm (by rw[a];decide)];rfl
   exact⟨(),(cvE rfl rfl),by rw[e];exact b⟩
 clear b Y;rintro _ Y b;exact⟨_,rfl,za b.2.2,hlt b.2.2,zp (v := .agg (zU.enc (nd7 x)).toArray) k68 b.2.1 rfl rfl rfl ⟨_,rfl,za (zn b.2.1),rfl,zk b.1 (by omega) _⟩⟩
theorem zyt:∃G,TyEq PG 66 true 2 2 G/\∀r n,G [.bool r,u8 n]:=by
 refine⟨_,.struct (uf Tryz.underlying66).1 (by kernel_rfl) (fun w=>Tryz.isAgg66 w) (jc (by kernel_rfl) (by kernel_rfl)).1 (by kernel_rfl)
  (by rw[(uf Tryz.underlying66).2];exact .cons (by decide) rfl zxV (.cons (by decide) rfl tU8 .nil)),fun r n=>?_⟩
 exact⟨⟨_,rfl⟩,⟨_,rfl⟩,trivial⟩
theorem zyr:∃G,TyEq PG 68 true 10 3 G/\∀x,G (zU.enc x):=by
 obtain⟨G,a,b⟩:=zyt;refine⟨_,.struct (uf Tryz.underlying68).1 (by kernel_rfl) (fun w=>Tryz.isAgg68 w) (jc (by kernel_rfl) (by kernel_rfl)).1 (by kernel_rfl)
  (by rw[(uf Tryz.underlying68).2];exact .cons (by decide) rfl (tU8.up 1) (.cons (by decide) rfl (tU8.up 1) (.cons (by decide) rfl (tU8.up 1) (.cons (by decide) rfl a (.cons (by decide) rfl a (.cons (by decide) rfl (tU8.up 1) (.cons (by decide) rfl (tU8.up 1) (.cons (by decide) rfl (tU8.up 1) .nil)))))))),fun x=>?_⟩
 exact⟨⟨_,rfl⟩,⟨_,rfl⟩,⟨_,rfl⟩,b _ _,b _ _,⟨_,rfl⟩,⟨_,rfl⟩,⟨_,rfl⟩,trivial⟩
theorem zcy{a b:UInt8}(h:u8 a=u8 b):a=b:=by
 unfold u8 at h;simp only[Value.int.injEq,true_and] at h;exact qS.1 h
theorem zvc{a b:InsD}:zU.enc a=zU.enc b↔a=b:=by
 constructor
 ·intro h;obtain⟨a0,q,m,y,n,a5,o,a7,v,a9⟩:=a;obtain⟨b0,b1,r,b3,u,t,z,b7,s,p⟩:=b;simp only[zU,QH,Gh,Value.bool.injEq] at h;obtain⟨f,e,k,rfl,d,rfl,i,l,j,c⟩:=h;rw[zcy f,zcy e,zcy k,zcy d,zcy i,zcy l,zcy j,zcy c]
 ·exact fun h=>by rw[h]
theorem zvx(x y:Operand)(a b:InsD)(w:Wd):(do eqGuard .eql 68 x y (.agg (zU.enc a).toArray) (.agg (zU.enc b).toArray);binOp .eql 68 (.agg (zU.enc a).toArray) (.agg (zU.enc b).toArray)).run PG w = .ok (.bool (decide (a=b))) w:=by
 obtain⟨G,h,c⟩:=zyr;rw[zlq h 9997 rfl (by kernel_rfl) rfl rfl (c a) (c b) x y w,zdi zvc]
structure SpV (X:Wd) (g bx:Nat) (x:InsD) (locs after:Nat):Prop where
 c:X.heap[g]?=some (.cells (spC x locs after).toArray 263 (0,0))
 b:X.heap[bx]?=some (.cells #[At0 g] 337 (0,0))
 G:GlobC X
theorem SpV.below{X Y:Wd}{g bx locs after:Nat}{x:InsD}(h:SpV X g bx x locs after)(hb:Bw X Y):SpV Y g bx x locs after:=⟨zb hb h.c,zb hb h.b,h.G.below hb⟩
theorem SpV.cells{X:Wd}{g bx locs after:Nat}{x:InsD}(h:SpV X g bx x locs after):zI X ⟨g,0,none⟩ (spC x locs after):=za h.c
section
variable{g bx locs after:Nat}{x:InsD}{w:Wd}
theorem zvN(h:SpV w g bx x locs after):CB 234 #[At0 bx] w (.bool (decide (1<=x.op.toNat)&&decide (x.op.toNat<=8))):=by
 refine zD 16 [At0 bx] Tryz.func234 ?_;refine⟨_,zc (za h.b) (i:=0) rfl,_,zc h.cells (i:=0) rfl,biE (fun a=>?_) fun a=>?_⟩
 ·have a:(1:Int)<=x.op.toNat:=dT a;refine⟨_,zc (za h.b) (i:=0) rfl,_,zc h.cells (i:=0) rfl,rb ?_,Gb _ _⟩;rw[Up (p:=1<=x.op.toNat) (by omega),Uv,QC];show(x.op.toNat:Int)<=8↔_;omega
 ·have a:¬(1:Int)<=x.op.toNat:=dF a;refine⟨rb ?_,Gb _ _⟩;rw[Ue (p:=1<=x.op.toNat) (by omega)];rfl
theorem zvM(h:SpV w g bx x locs after)(hop:x.op.toNat<=8):CB 235 #[At0 bx] w (.bool (decide (x=zhH x))):=by
 refine zD 9 [At0 bx] Tryz.func235 ?_;have a:SpV w.drew g bx x locs after:=h.below (Gb _ w).drew;refine DrawE.ord [] [0,1,2,3,4,5,6,7] (by kernel_rfl) ⟨_,zc (za a.b) (i:=0) rfl,zU.enc x,rfl,zP (n:=0) (m:=10) a.cells,hlt a.c,_,zc (za a.b) (i:=0) rfl,cmo (zsL a.cells (hlt a.c) hop a.G) ?_⟩;rintro e V ⟨rfl,d⟩;exact⟨d,_,fun w=>zvx _ _ x (zhH x) w,rfl,(Gb _ w).drew.trans d⟩
theorem zvL(h:SpV w g bx x locs after):CB 237 #[At0 bx] w (.bool (decide (x.dst.toNat<8))):=by
 refine zD 8 [At0 bx] Tryz.func237 ?_;refine⟨_,zc (za h.b) (i:=0) rfl,_,zc h.cells (i:=1) rfl,rb ?_,Gb _ _⟩;show decide ((x.dst.toNat:Int)<8)=_;rw[QC];omega
theorem zvK(h:SpV w g bx x locs after)(hop:x.op.toNat<=8):CB 238 #[At0 bx] w (.bool (!jW x.op 2||decide (x.loc.toNat<locs))):=by
 refine zD 18 [At0 bx] Tryz.func238 ?_;have c:SpV w.drew g bx x locs after:=h.below (Gb _ w).drew;refine DrawE.ord [] [0,1,2,3,4,5,6,7,8,9,10,11,12,13,14,15,16] (by kernel_rfl) ⟨_,zc (za c.b) (i:=0) rfl,cmo (zfQ 2 c.cells hop c.G) ?_⟩;rintro e _ ⟨rfl,rfl⟩;refine⟨Gb _ _,biE (fun a=>?_) fun a=>?_⟩
 ·have a:(!jW x.op 2)=true:=a;exact⟨rb (by rw[a];rfl),(Gb _ w).drew⟩
 ·have a:(!jW x.op 2)=false:=a;refine⟨_,zc (za c.b) (i:=0) rfl,_,zc c.cells (i:=2) rfl,_,jh _,_,zc (za c.b) (i:=0) rfl,_,zc c.cells (i:=10) rfl,rb ?_,(Gb _ w).drew⟩;rw[a,Us,QC];omega
theorem zvJ(h:SpV w g bx x locs after):CB 240 #[At0 bx] w (.bool (zlG x.ar x.an&&zlG x.br x.bn)):=by
 refine zD 16 [At0 bx] Tryz.func240 ?_;refine⟨_,zc (za h.b) (i:=0) rfl,[.bool x.ar,u8 x.an],rfl,zP (n:=3) (m:=2) h.cells,hlt h.c,cmo (zjm x.ar x.an w) ?_⟩;rintro e V ⟨rfl,j⟩;have d:=h.below j;refine biE (fun a=>?_) fun a=>?_
 ·have a:zlG x.ar x.an=true:=a;refine⟨_,zc (za d.b) (i:=0) rfl,[.bool x.br,u8 x.bn],rfl,zP (n:=5) (m:=2) d.cells,hlt d.c,cmo (zjm x.br x.bn V) ?_⟩;rintro e U ⟨rfl,f⟩;exact⟨rb (by rw[a,Uv]),(zst j f)⟩
 ·have a:zlG x.ar x.an=false:=a;exact⟨rb (by rw[a,Ug]),j⟩
theorem zvI(h:SpV w g bx x locs after)(hop:x.op.toNat<=8):CB 244 #[At0 bx] w (.bool (!jW x.op 64||(decide (1<=x.skip.toNat)&&decide (x.skip.toNat<=after)))):=by
 refine zD 26 [At0 bx] Tryz.func244 ?_;have a:SpV w.drew g bx x locs after:=h.below (Gb _ w).drew;refine DrawE.ord [] [0,1,2,3,4,5,6,7,8,9,10,11,12,13,14,15,16,17,18,19,20,21,22,23,24] (by kernel_rfl) ⟨_,zc (za a.b) (i:=0) rfl,cmo (zfQ 64 a.cells hop a.G) ?_⟩;rintro e _ ⟨rfl,rfl⟩;refine⟨Gb _ _,biE (fun c=>?_) fun c=>?_⟩
 ·have c:(!jW x.op 64)=true:=c;exact⟨rb (by rw[c];rfl),(Gb _ w).drew⟩
 ·have c:(!jW x.op 64)=false:=c;rw[c,Us];refine⟨_,zc (za a.b) (i:=0) rfl,_,zc a.cells (i:=9) rfl,biE (fun d=>?_) fun d=>?_⟩
  ·have d:(1:Int)<=x.skip.toNat:=dT d;refine⟨_,zc (za a.b) (i:=0) rfl,_,zc a.cells (i:=9) rfl,_,jh _,_,zc (za a.b) (i:=0) rfl,_,zc a.cells (i:=11) rfl,rb ?_,(Gb _ w).drew⟩;rw[Up (p:=1<=x.skip.toNat) (by omega),Uv,QC];omega
  ·have d:¬(1:Int)<=x.skip.toNat:=dF d;refine⟨rb ?_,(Gb _ w).drew⟩;rw[Ue (p:=1<=x.skip.toNat) (by omega)];rfl
end
def zlw (g bx:Nat):List Value:=[.func (.func 234) #[] #[At0 bx],.func (.func 235) #[] #[At0 bx],.func (.func 237) #[] #[At0 bx],
 .func (.func 238) #[] #[At0 bx],.func (.func 240) #[] #[At0 bx],.func (.func 242) #[At0 g] #[],.func (.func 243) #[At0 g] #[],
 .func (.func 244) #[] #[At0 bx]]
theorem zvH{g:Nat}{w:Wd}:Calls PG 173 #[At0 g] w fun e w'=>e = .returned (.slice (some ⟨w.heap.size+1,0,none⟩) 8 8) /\
  w'.heap[w.heap.size]?=some (.cells #[At0 g] 337 (0,0))/\w'.heap[w.heap.size+1]?=some (.cells (zlw g w.heap.size).toArray 31 (0,0))/\w'.heap.size=w.heap.size+2/\Bw w w':=by
 refine zD 14 [At0 g] Tryz.func173 ?_;obtain⟨W,b⟩:=nm (w.alloc (.cells #[At0 g] 337));have f:W.heap[w.heap.size]?=some (.cells #[At0 g] 337 (0,0)):=by rw[b];exact zt w _
 have d:W.heap.size=w.heap.size+1:=by rw[b,wz]
 have c:Bw w W:=by rw[b];exact(zba w _)
 refine⟨_,zc (za (zt w _)) (i:=0) rfl,_,zc (za (zt w _)) (i:=0) rfl,⟨by decide,by decide,rfl⟩,zlw g w.heap.size,rfl,?_⟩;have a:=wz w (.cells #[At0 g] 337);refine⟨?_,?_,?_,?_,?_⟩
 ·show Ending.returned (.slice (some ⟨(w.alloc (.cells #[At0 g] 337)).heap.size,0,none⟩) 8 8)=_;rw[a]
 ·exact qO _ (zt w _)
 ·rw[<- a];exact zt _ _
 ·rw[wz,wz]
 ·exact((zba w _)).alloc (by simp) _
structure ThI (X:Wd) (L:Nat) (x:InsD) (locs after:Nat):Prop where
 c:X.heap[L]?=some (.cells (spC x locs after).toArray 263 (0,0))
 b:X.heap[L+1]?=some (.cells #[At0 L] 337 (0,0))
 s:X.heap[L+2]?=some (.cells (zlw L (L+1)).toArray 31 (0,0))
theorem ThI.below{X Y:Wd}{L:Nat}{x:InsD}{locs after:Nat}(h:ThI X L x locs after)(hb:Bw X Y):ThI Y L x locs after:=⟨zb hb h.c,zb hb h.b,zb hb h.s⟩
def zvd:InsD:=⟨0,0,0,false,0,false,0,0,0,0⟩
theorem znv{l:List Bool}:∀{n:Nat},(∀j,j<n->l[j]?=some true)->n=l.length->l.all id=true:=by
 intro n h e;rw[Qg];intro b a;obtain⟨j,c,rfl⟩:=Kj a;have:=h j (by omega);rw[gE c] at this;exact Uc this
theorem ztY{l:List Bool}{j:Nat}(h:l[j]?=some false):l.all id=false:=by
 rw[KL];obtain⟨a,e⟩:=Jr.1 h;exact⟨l[j],gM _,by rw[e];decide⟩
theorem zef{l:List InsD}{k locs:Nat}(hkl:k<l.length){i:Nat}(h:(jg l[k] locs (l.length-1-k))[i]?=some false){w X:Wd}(hb:Bw w X) :
  Ending.returned (.bool false) = .returned (.bool (qI l locs))/\Bw w X:=by
 refine⟨rb ?_,hb⟩;symm;unfold qI;rw[Bool.and_eq_false_iff];refine .inr ?_;rw[KL];refine⟨k,Ul.2 hkl,?_⟩;rw[gE hkl];show ¬zjD l[k] locs (l.length-1-k)=true;unfold zjD;rw[ztY h];simp
theorem znx{p:OA}{cap locs:Nat}{l:List InsD}{w:Wd}(hl:SlR zU w p l)(hG:GlobC w)(hn:l.length<=140737488351232) :
  CB 97 #[.slice p l.length cap,i64 locs] w (.bool (qI l locs)):=by
 refine zD 43 [.slice p l.length cap,i64 locs] Tryz.func97 ?_;obtain⟨L,hL⟩:=nm (w.heap.size);refine biE (fun h=>?_) fun h=>?_
 ·have h:(12:Int)<l.length:=dT h;exact⟨rb (by unfold qI;rw[Ue (by omega)];rfl),Gb _ _⟩
 have ar:¬(12:Int)<l.length:=dF h;refine⟨spC zvd locs 0,rfl,zo (X:=w) (v := .agg (spC zvd locs 0).toArray) zyz rfl rfl rfl fun V ai fV sV=>cmo zvH ?_⟩;rintro e W0 ⟨rfl,ad,ab,ak,ac⟩;rw[sV,<- hL] at ak ad ab;have aq:ThI W0 L zvd locs 0:=⟨hL▸zb ac fV,ad,ab⟩;have ap:Bw w W0:=zst ai ac;have p1:some (Value.pointer (some ⟨w.heap.size,0,none⟩))=some (At0 L):=by rw[hL]
 have p2:some (Value.slice (some ⟨V.heap.size+1,0,none⟩) 8 8)=some (Value.slice (some ⟨L+2,0,none⟩) 8 8):=by rw[sV,hL]
 clear ad ab fV sV ac ai;refine⟨Nat,fun k=>⟨[(0,.slice p l.length cap),(1,i64 locs),(5,At0 L),(6,.slice (some ⟨L+2,0,none⟩) 8 8),(17,.slice p l.length cap),(18,i64 l.length),(19,i64 (k:Nat))],[]⟩,
  fun k X=>k<=l.length/\(∀i,i<k->∀x,l[i]?=some x->zjD x locs (l.length-1-i)=true)/\(∃x aft,ThI X L x locs aft)/\Bw w X,fun k=>l.length-k,0,
  ⟨.cons rfl (.cons rfl (.cons p1 (.cons p2 (.cons rfl (.cons rfl (.cons rfl .nil)))))),rfl⟩,⟨UZ _,fun i u=>by omega,⟨zvd,0,aq⟩,ap⟩,?_⟩
 rintro k X ⟨hk,y,⟨x0,a0,hI⟩,aa⟩;dsimp only at hk y ⊢;refine biE (fun hc=>?_) fun hc=>?_
 ·have hc:(k:Int)<(l.length:Int):=dT hc;have q:k<l.length:=by omega
  obtain⟨b,o,rfl,ah,am⟩:=hl.at q;refine⟨k,rfl,q,?_⟩;have hx:=am k q;refine⟨zU.enc l[k],rfl,jP aa ah hx,nL ah aa.size,zo (X:=X) (v := .agg (zU.enc l[k]).toArray) k68 rfl rfl rfl fun Y aj fY sY=>⟨zU.enc l[k],rfl,za fY,hlt fY,((l.length-1:Nat):Int),(ze (by omega)).trans (by omega),((l.length-1-k:Nat):Int),(ze (by omega)).trans (by omega),?_⟩⟩;have hY:=hI.below aj;refine zad k68 hY.c (o:=0) (v := .agg (zU.enc l[k]).toArray) rfl (by show 0+10<=12;omega) rfl fun Z fZ gZ sZ=>zad k3 fZ (o:=11) (v:=i64 (l.length-1-k:Nat)) rfl (by show 11+1<=12;omega) rfl fun U fU gU sU=>?_;have af:ThI U L l[k] locs (l.length-1-k):=⟨fU,(gU.block _ (by have:=hlt hY.b;omega) (by simp)).trans ((gZ.block _ (hlt hY.b) (by simp)).trans hY.b),(gU.block _ (by have:=hlt hY.s;omega) (by simp)).trans ((gZ.block _ (hlt hY.s) (by simp)).trans hY.s)⟩;have ag:Bw w U:=by
   have h1:Bw w Y:=zst aa aj;have h2:∀(A B:Wd),Bw w A->A.grownBy B (some L)->Bw w B:=fun A B ha hg=>ha.trans ⟨hg.os,hg.tape,hg.output,hg.size,fun j hj=>hg.block j (nL hj ha.size) (by simp;omega)⟩;exact h2 _ _ (h2 _ _ h1 gZ) gU
  refine⟨Nat,fun j=>⟨[(0,.slice (some ⟨b,o,none⟩) l.length cap),(1,i64 locs),(5,At0 L),(6,.slice (some ⟨L+2,0,none⟩) 8 8),(17,.slice (some ⟨b,o,none⟩) l.length cap),(18,i64 l.length),(19,i64 (k:Nat)),(32,.slice (some ⟨L+2,0,none⟩) 8 8),(33,i64 8),(34,i64 (j:Nat))],[]⟩,
   fun j X=>j<=8/\(∀i,i<j->(jg l[k] locs (l.length-1-k))[i]?=some true)/\ThI X L l[k] locs (l.length-1-k)/\Bw w X,fun j=>8-j,0,
   (cvE rfl rfl),⟨UZ _,fun i u=>by omega,af,ag⟩,?_⟩
  clear af ag;rintro j X2 ⟨hj,g,t,f⟩;dsimp only at hj g ⊢;have an:GlobC X2:=hG.below f;have hS:SpV X2 L (L+1) l[k] locs (l.length-1-k):=⟨t.c,t.b,an⟩;refine biE (fun z=>?_) fun z=>?_
  ·have z:(j:Int)<8:=dT z;refine⟨j,rfl,(by omega),?_⟩;have ho:0<j->l[k].op.toNat<=8:=fun h0=>by
    have:=Uc (g 0 h0);rw[bAT] at this;exact dT this.2
   have r:∀{v:Value},(zlw L (L+1))[j]?=some v->X2.cell? ⟨L+2,0+j*1,none⟩=some v:=fun hv=>by
    have:=zc (za t.s) (i:=j) (by simpa using hv);rw[UX];exact this
   have al:j=0\/j=1\/j=2\/j=3\/j=4\/j=5\/j=6\/j=7:=by omega
   rcases al with rfl | rfl | rfl | rfl | rfl | rfl | rfl | rfl
   ·refine⟨_,r rfl,cmo (zvN hS) ?_⟩;rintro e W ⟨rfl,d⟩;have n:=t.below d;refine biE (fun a=>?_) fun a=>?_
    ·have a:(!((jg l[k] locs (l.length-1-k))[0]'(by show 0<8;decide)))=true:=a;have a:(jg l[k] locs (l.length-1-k))[0]?=some false:=(by rw[gE (by show 0<8;decide)];exact Gi some (by rw[<- UE ((jg l[k] locs (l.length-1-k))[0]'(by show 0<8;decide)),a];rfl));exact zef q a ((zst f d))
    ·have a:(!((jg l[k] locs (l.length-1-k))[0]'(by show 0<8;decide)))=false:=a;have a:(jg l[k] locs (l.length-1-k))[0]?=some true:=(by rw[gE (by show 0<8;decide)];exact Gi some (by rw[<- UE ((jg l[k] locs (l.length-1-k))[0]'(by show 0<8;decide)),a];rfl));refine⟨_,(ze (by omega)).trans rfl,1,(cvE rfl rfl),⟨by omega,fun i u=>?_,n,(zst f d)⟩,by decide⟩;by_cases m:i=0
     ·rw[m];exact a
     ·exact g i (by omega)
   ·refine⟨_,r rfl,cmo (zvM hS (ho (by omega))) ?_⟩;rintro e W ⟨rfl,d⟩;have n:=t.below d;refine biE (fun a=>?_) fun a=>?_
    ·have a:(!((jg l[k] locs (l.length-1-k))[1]'(by show 1<8;decide)))=true:=a;have a:(jg l[k] locs (l.length-1-k))[1]?=some false:=(by rw[gE (by show 1<8;decide)];exact Gi some (by rw[<- UE ((jg l[k] locs (l.length-1-k))[1]'(by show 1<8;decide)),a];rfl));exact zef q a ((zst f d))
    ·have a:(!((jg l[k] locs (l.length-1-k))[1]'(by show 1<8;decide)))=false:=a;have a:(jg l[k] locs (l.length-1-k))[1]?=some true:=(by rw[gE (by show 1<8;decide)];exact Gi some (by rw[<- UE ((jg l[k] locs (l.length-1-k))[1]'(by show 1<8;decide)),a];rfl));refine⟨_,(ze (by omega)).trans rfl,2,(cvE rfl rfl),⟨by omega,fun i u=>?_,n,(zst f d)⟩,by decide⟩;by_cases m:i=1
     ·rw[m];exact a
     ·exact g i (by omega)
   ·refine⟨_,r rfl,cmo (zvL hS) ?_⟩;rintro e W ⟨rfl,d⟩;have n:=t.below d;refine biE (fun a=>?_) fun a=>?_
    ·have a:(!((jg l[k] locs (l.length-1-k))[2]'(by show 2<8;decide)))=true:=a;have a:(jg l[k] locs (l.length-1-k))[2]?=some false:=(by rw[gE (by show 2<8;decide)];exact Gi some (by rw[<- UE ((jg l[k] locs (l.length-1-k))[2]'(by show 2<8;decide)),a];rfl));exact zef q a ((zst f d))
    ·have a:(!((jg l[k] locs (l.length-1-k))[2]'(by show 2<8;decide)))=false:=a;have a:(jg l[k] locs (l.length-1-k))[2]?=some true:=(by rw[gE (by show 2<8;decide)];exact Gi some (by rw[<- UE ((jg l[k] locs (l.length-1-k))[2]'(by show 2<8;decide)),a];rfl));refine⟨_,(ze (by omega)).trans rfl,3,(cvE rfl rfl),⟨by omega,fun i u=>?_,n,(zst f d)⟩,by decide⟩;by_cases m:i=2
     ·rw[m];exact a
     ·exact g i (by omega)
   ·refine⟨_,r rfl,cmo (zvK hS (ho (by omega))) ?_⟩;rintro e W ⟨rfl,d⟩;have n:=t.below d;refine biE (fun a=>?_) fun a=>?_
    ·have a:(!((jg l[k] locs (l.length-1-k))[3]'(by show 3<8;decide)))=true:=a;have a:(jg l[k] locs (l.length-1-k))[3]?=some false:=(by rw[gE (by show 3<8;decide)];exact Gi some (by rw[<- UE ((jg l[k] locs (l.length-1-k))[3]'(by show 3<8;decide)),a];rfl));exact zef q a ((zst f d))
    ·have a:(!((jg l[k] locs (l.length-1-k))[3]'(by show 3<8;decide)))=false:=a;have a:(jg l[k] locs (l.length-1-k))[3]?=some true:=(by rw[gE (by show 3<8;decide)];exact Gi some (by rw[<- UE ((jg l[k] locs (l.length-1-k))[3]'(by show 3<8;decide)),a];rfl));refine⟨_,(ze (by omega)).trans rfl,4,(cvE rfl rfl),⟨by omega,fun i u=>?_,n,(zst f d)⟩,by decide⟩;by_cases m:i=3
     ·rw[m];exact a
     ·exact g i (by omega)
   ·refine⟨_,r rfl,cmo (zvJ hS) ?_⟩;rintro e W ⟨rfl,d⟩;have n:=t.below d;refine biE (fun a=>?_) fun a=>?_
    ·have a:(!((jg l[k] locs (l.length-1-k))[4]'(by show 4<8;decide)))=true:=a;have a:(jg l[k] locs (l.length-1-k))[4]?=some false:=(by rw[gE (by show 4<8;decide)];exact Gi some (by rw[<- UE ((jg l[k] locs (l.length-1-k))[4]'(by show 4<8;decide)),a];rfl));exact zef q a ((zst f d))
    ·have a:(!((jg l[k] locs (l.length-1-k))[4]'(by show 4<8;decide)))=false:=a;have a:(jg l[k] locs (l.length-1-k))[4]?=some true:=(by rw[gE (by show 4<8;decide)];exact Gi some (by rw[<- UE ((jg l[k] locs (l.length-1-k))[4]'(by show 4<8;decide)),a];rfl));refine⟨_,(ze (by omega)).trans rfl,5,(cvE rfl rfl),⟨by omega,fun i u=>?_,n,(zst f d)⟩,by decide⟩;by_cases m:i=4
     ·rw[m];exact a
     ·exact g i (by omega)
   ·refine⟨_,r rfl,cmo (zmz hS.cells) ?_⟩;rintro e _ ⟨rfl,rfl⟩;have d:Bw X2 X2:=Gb _ _;have n:=t;refine biE (fun a=>?_) fun a=>?_
    ·have a:(!((jg l[k] locs (l.length-1-k))[5]'(by show 5<8;decide)))=true:=a;have a:(jg l[k] locs (l.length-1-k))[5]?=some false:=(by rw[gE (by show 5<8;decide)];exact Gi some (by rw[<- UE ((jg l[k] locs (l.length-1-k))[5]'(by show 5<8;decide)),a];rfl));exact zef q a ((zst f d))
    ·have a:(!((jg l[k] locs (l.length-1-k))[5]'(by show 5<8;decide)))=false:=a;have a:(jg l[k] locs (l.length-1-k))[5]?=some true:=(by rw[gE (by show 5<8;decide)];exact Gi some (by rw[<- UE ((jg l[k] locs (l.length-1-k))[5]'(by show 5<8;decide)),a];rfl));refine⟨_,(ze (by omega)).trans rfl,6,(cvE rfl rfl),⟨by omega,fun i u=>?_,n,(zst f d)⟩,by decide⟩;by_cases m:i=5
     ·rw[m];exact a
     ·exact g i (by omega)
   ·refine⟨_,r rfl,cmo (zre hS.cells) ?_⟩;rintro e _ ⟨rfl,rfl⟩;have d:Bw X2 X2:=Gb _ _;have n:=t;refine biE (fun a=>?_) fun a=>?_
    ·have a:(!((jg l[k] locs (l.length-1-k))[6]'(by show 6<8;decide)))=true:=a;have a:(jg l[k] locs (l.length-1-k))[6]?=some false:=(by rw[gE (by show 6<8;decide)];exact Gi some (by rw[<- UE ((jg l[k] locs (l.length-1-k))[6]'(by show 6<8;decide)),a];rfl));exact zef q a ((zst f d))
    ·have a:(!((jg l[k] locs (l.length-1-k))[6]'(by show 6<8;decide)))=false:=a;have a:(jg l[k] locs (l.length-1-k))[6]?=some true:=(by rw[gE (by show 6<8;decide)];exact Gi some (by rw[<- UE ((jg l[k] locs (l.length-1-k))[6]'(by show 6<8;decide)),a];rfl));refine⟨_,(ze (by omega)).trans rfl,7,(cvE rfl rfl),⟨by omega,fun i u=>?_,n,(zst f d)⟩,by decide⟩;by_cases m:i=6
     ·rw[m];exact a
     ·exact g i (by omega)
   ·refine⟨_,r rfl,cmo (zvI hS (ho (by omega))) ?_⟩;rintro e W ⟨rfl,d⟩;have n:=t.below d;refine biE (fun a=>?_) fun a=>?_
    ·have a:(!((jg l[k] locs (l.length-1-k))[7]'(by show 7<8;decide)))=true:=a;have a:(jg l[k] locs (l.length-1-k))[7]?=some false:=(by rw[gE (by show 7<8;decide)];exact Gi some (by rw[<- UE ((jg l[k] locs (l.length-1-k))[7]'(by show 7<8;decide)),a];rfl));exact zef q a ((zst f d))
    ·have a:(!((jg l[k] locs (l.length-1-k))[7]'(by show 7<8;decide)))=false:=a;have a:(jg l[k] locs (l.length-1-k))[7]?=some true:=(by rw[gE (by show 7<8;decide)];exact Gi some (by rw[<- UE ((jg l[k] locs (l.length-1-k))[7]'(by show 7<8;decide)),a];rfl));refine⟨_,(ze (by omega)).trans rfl,8,(cvE rfl rfl),⟨by omega,fun i u=>?_,n,(zst f d)⟩,by decide⟩;by_cases m:i=7
     ·rw[m];exact a
     ·exact g i (by omega)
  ·have z:¬(j:Int)<8:=dF z;obtain rfl:j=8:=by omega
   have ao:zjD l[k] locs (l.length-1-k)=true:=znv g rfl;refine nxI (by omega) ⟨k+1,(cvE rfl rfl),⟨q,fun i u x ae=>?_,⟨_,_,t⟩,f⟩,zdc (by omega)⟩;by_cases m:i=k
   ·subst m;rw[gE q] at ae;rw[<- Uc ae];exact ao
   ·exact y i (by omega) x ae
 ·have hc:¬(k:Int)<(l.length:Int):=dF hc;obtain rfl:k=l.length:=by omega
  refine⟨rb ?_,aa⟩;unfold qI;rw[Up (by omega),Uv,Eq.comm,Qg];intro i u;have u:i<l.length:=Ul.1 u;rw[gE u];exact y i u _ (gE u)
structure GlobE (w:Wd):Prop where
 c:GlobC w
 t64:Tz64M w
 t32:Tz32M w
theorem GlobE.below{w w2:Wd}(h:GlobE w)(hb:Bw w w2):GlobE w2:=⟨h.c.below hb,h.t64.below hb,h.t32.below hb⟩
abbrev zep:=PathD×(OA×Nat)×(OA×Nat)×(OA×Nat)×(OA×Nat)
def j7:Enc zep:=⟨fun x=>zjz x.1 x.2.1.1 x.2.1.2 x.2.2.1.1 x.2.2.1.2 x.2.2.2.1.1 x.2.2.2.1.2 x.2.2.2.2.1 x.2.2.2.2.2,12,fun _=>zmn ..,by decide,fun a u hu=>Qg.1 (zmm ..) u hu⟩
structure RowIn {α:Type} (E:Enc α) (T:TypeId) (B:Nat) (F:Nat->Prop) (Y:Wd) (q:OA) (c:Nat) (l:List α):Prop where
 own:OwnS E T B Y q c l
 inF:∀a,q=some a->F a.block
section
variable{α:Type}{E:Enc α}{T:TypeId}{B:Nat}{F G:Nat->Prop}{Y Z:Wd}{q:OA}{c:Nat}{l:List α}
theorem za9(h:OwnS E T B Y q c l){a:Addr}(ha:q=some a):B<=a.block/\a.block<Y.heap.size/\∃cur,Y.heap[a.block]?=some (.cells cur T (0,0)):=by
 rcases h.inv with⟨b,_⟩ | ⟨g,cur,b,e,d,_⟩
 ·rw[b] at ha;cases ha
 ·rw[b] at ha;cases ha;exact⟨e,hlt d,cur,d⟩
theorem RowIn.same(h:RowIn E T B F Y q c l)(hs:∀k,F k->k<Y.heap.size->Z.heap[k]?=Y.heap[k]?)(hG:∀k,F k->G k):RowIn E T B G Z q c l :=
 ⟨h.own.same fun a b=>hs _ (h.inF a b) (za9 h.own b).2.1,fun a b=>hG _ (h.inF a b)⟩
end
def PthIn (B:Nat) (F:Nat->Prop) (Y:Wd) (x:zep):Prop:=RowIn evE 80 B F Y x.2.1.1 x.2.1.2 x.1.ev/\RowIn prE 46 B F Y x.2.2.1.1 x.2.2.1.2 x.1.data/\RowIn prE 46 B F Y x.2.2.2.1.1 x.2.2.2.1.2 x.1.ctrl/\RowIn prE 46 B F Y x.2.2.2.2.1 x.2.2.2.2.2 x.1.rmw
theorem PthIn.same{B:Nat}{F G:Nat->Prop}{Y Z:Wd}{x:zep}(h:PthIn B F Y x)(hs:∀k,F k->k<Y.heap.size->Z.heap[k]?=Y.heap[k]?)(hG:∀k,F k->G k):PthIn B G Z x :=
 ⟨h.1.same hs hG,h.2.1.same hs hG,h.2.2.1.same hs hG,h.2.2.2.same hs hG⟩
theorem jD{W A B:Wd}{r:Option Nat}(h:W.grownBy A r)(hb:Below W.heap.size A B):W.grownBy B r :=
 ⟨hb.os.trans h.os,hb.tape.trans h.tape,hb.output.trans h.output,UL h.size hb.size,fun k b a=>(hb.block k b).trans (h.block k b a)⟩
theorem zuq{q:OA}{cap:Nat}{l:List InsD}{w:Wd}(hl:SlR zU w q l)(hG:GlobC w)(hn:l.length<=140737488351232) :
  CB 125 #[.slice q l.length cap] w (.bool (qI l 6)):=by
 refine zD 5 [.slice q l.length cap] Tryz.func125 ?_;refine cmo (znx (locs:=6) hl hG hn) ?_;rintro e X ⟨rfl,a⟩;exact⟨rfl,a⟩
def JPa (B n0 L:Nat) (W:Wd) (pre:List RunD) (F:Nat->Prop) (Y:Wd):Prop :=
 (n0<=Y.heap.size/\F L/\∀k,F k->k<Y.heap.size)/\(∃(xs:List zep) (p:OA) (c:Nat),Y.heap[L]?=some (.cells [.slice p xs.length c].toArray 101 (0,0))/\RowIn j7 145 B F Y p c xs/\xs.map (·.1)=pre.map jN/\∀x∈xs,PthIn n0 F Y x)/\Below B W Y
theorem JPa.iter{B n0 L:Nat}{W:Wd}(hB:B<=n0)(hn:n0=W.heap.size):JG n0 (fun _=>False) (JPa B n0 L W):=by
 refine⟨?_,?_⟩
 ·rintro g F A C ⟨⟨r,f,d⟩,⟨o,p,c,i,j,n,u⟩,t⟩ a;have e:∀k,F k->k<A.heap.size->C.heap[k]?=A.heap[k]?:=fun k b m=>a.same k m (.inr b);refine⟨⟨UL r a.size,f,fun k b=>nL (d k b) a.size⟩,⟨o,p,c,(e L f (d L f)).trans i,j.same e fun k h=>h,n,fun x s=>(u x s).same e fun k h=>h⟩,t.trans ⟨a.os,a.tape,a.output,a.size,fun k b=>a.same k (by omega) (.inl ⟨by omega,fun h=>h⟩)⟩⟩
 ·rintro g F A k ⟨⟨_,_,d⟩,_⟩ b;exact⟨d k b,fun h=>h⟩
def PthO (B:Nat) (Y:Wd) (x:zep):Prop:=OwnS evE 80 B Y x.2.1.1 x.2.1.2 x.1.ev/\OwnS prE 46 B Y x.2.2.1.1 x.2.2.1.2 x.1.data/\OwnS prE 46 B Y x.2.2.2.1.1 x.2.2.2.1.2 x.1.ctrl/\OwnS prE 46 B Y x.2.2.2.2.1 x.2.2.2.2.2 x.1.rmw
theorem PthO.mono{B B':Nat}{Y:Wd}{x:zep}(h:PthO B Y x)(hB:B'<=B):PthO B' Y x:=⟨OwnS.lower h.1 hB,OwnS.lower h.2.1 hB,OwnS.lower h.2.2.1 hB,OwnS.lower h.2.2.2 hB⟩
def wrE (R:RunD) (i:Nat) (v:UInt8):Bool:=(List.range i).any fun j=>decide ((R.ev j).k=2)&&decide ((R.ev j).v=v)
def wrL (rs:List RunD) (v:UInt8):Bool:=rs.any fun R=>wrE R R.many v
theorem znE(rs:List RunD):zaF rs=qh.filter (wrL rs):=rfl
def wrC (f:UInt8->Bool):List Value:=seg 256 fun i => .bool (f (UInt8.ofNat i))
theorem znG(f:UInt8->Bool){i:Nat}(h:i<256):(wrC f)[i]?=some (.bool (f (UInt8.ofNat i))):=zcR _ h
theorem zuo(f:UInt8->Bool)(x:UInt8):(wrC f).set x.toNat (.bool true)=wrC fun v=>f v||decide (x=v):=by
 have b:=x.toNat_lt;apply KO;intro j;by_cases a:j<256
 ·rw[znG _ a];by_cases e:x.toNat=j
  ·subst e;rw[JC (by unfold wrC;rw[zB];exact b),UInt8.ofNat_toNat,Up rfl,Bool.or_true]
  ·rw[JT e,znG _ a];have:x≠UInt8.ofNat j:=fun h=>e (by rw[h,KH];omega);rw[Ue this,Uu]
 ·rw[JI (by unfold wrC;rw[QL,zB];omega),JI (by unfold wrC;rw[zB];omega)]
theorem zoX(f:UInt8->Bool):(wrC f).length=256:=zB _ _
theorem zrO(rs:List RunD)(R:RunD)(v:UInt8):wrL (rs++[R]) v=(wrL rs v||wrE R R.many v):=by
 unfold wrL;rw[List.any_append];simp
theorem zrQ(R:RunD)(i:Nat)(v:UInt8):wrE R (i+1) v=(wrE R i v||(decide ((R.ev i).k=2)&&decide ((R.ev i).v=v))):=by
 unfold wrE;rw[QS,List.any_append];simp
theorem zos(p:UInt8->Bool)(x:UInt8):[x].filter p=if p x=true then[x] else[]:=by
 rw[Qk,List.filter_nil]
theorem ztK{k:Nat}(h:k<256):∃hl:k<qh.length,qh[k]=UInt8.ofNat k:=by
 have hl:qh.length=256:=by unfold qh;rw[QJ,KU]
 refine⟨by rw[hl];exact h,?_⟩;simp[qh]
theorem zyo:List.replicate 256 (Value.bool false)=wrC fun _=>false:=by kernel_rfl
theorem zey{a b:Nat}:decide ((a:Int)<(b:Int))=decide (a<b):=by rw[QC];omega
def jV (c:Cnd):Bool:=decide (c.thread=0)&&(decide (c.n=0)&&decide (c.val=0))
theorem zbc{threads locs d:Nat}(c:Cnd):zaQ threads locs (d+1) c=(if c.kind=0 then jV c&&decide (c.kids.length=0) else
  if c.kind=1 then decide (c.thread.toNat<threads)&&(decide (c.n.toNat<8)&&decide (c.kids.length=0)) else
  if c.kind=2 then decide (c.n.toNat<locs)&&(decide (c.thread=0)&&decide (c.kids.length=0)) else
  if c.kind=3\/c.kind=4 then jV c&&(decide (2<=c.kids.length)&&c.kids.all (zaQ threads locs d)) else
  if c.kind=5 then jV c&&(decide (c.kids.length=1)&&c.kids.all (zaQ threads locs d)) else false):=by
 obtain⟨k,t,n,v,kids⟩:=c;rfl
def zwv (c:Cnd):Prop:=(c.kind=3\/c.kind=4)/\jV c=true/\2<=c.kids.length\/c.kind=5/\jV c=true/\c.kids.length=1
theorem zoA{threads locs d:Nat}{c:Cnd}(h:zwv c):zaQ threads locs (d+1) c=c.kids.all (zaQ threads locs d):=by
 rw[zbc];rcases h with⟨a,e,b⟩ | ⟨a,e,b⟩
 ·rw[Gm (by rcases a with h | h <;> rw[h] <;> decide),Gm (by rcases a with h | h <;> rw[h] <;> decide),Gm (by rcases a with h | h <;> rw[h] <;> decide),Gn a,e,Up b];rfl
 ·rw[Gm (by rw[a];decide),Gm (by rw[a];decide),Gm (by rw[a];decide),Gm (by rw[a];decide),Gn a,e,Up b];rfl
theorem zne{B threads locs:Nat}{w:Wd}(hB:B<=w.heap.size):∀(d:Nat) (c:Cnd) (b o:Nat) (p:OA) (cap:Nat),d<=1000->b<B->zI w ⟨b,o,none⟩ (zu c p cap)->KidsV B w p c.kids ->
  Calls PG 174 #[.pointer (some ⟨b,o,none⟩),i64 threads,i64 locs,i64 d] w fun e w'=>e = .returned (.bool (zaQ threads locs d c))/\w=w':=by
 intro d
 induction d with
 | zero =>
  intro c b o p cap _ hb l hk;refine zD 141 [.pointer (some ⟨b,o,none⟩),i64 threads,i64 locs,i64 0] Tryz.func174 ?_;exact brT ⟨rfl,rfl⟩
 | succ d ih =>
  intro c b o p cap hd hb l hk;refine qA 141 [.pointer (some ⟨b,o,none⟩),i64 threads,i64 locs,i64 (d+1:Nat)] (.s .p (.s .p (.c .p (.c .p .p)))) Tryz.func174 ?_;have ag:b<w.heap.size:=nL hb hB;refine biE (fun h=>?_) fun h=>?_
  ·have h:((d+1:Nat):Int)=0:=dT h;omega
  clear h;refine⟨Unit,fun _=>⟨[(0,.pointer (some ⟨b,o,none⟩)),(1,i64 threads),(2,i64 locs),(3,i64 (d+1:Nat)),(9,.bool (jV c))],[]⟩,fun _ X=>w=X,?_,?_⟩
  ·have aa:∀{v:Bool},v=jV c->some (Value.bool v)=some (.bool (jV c)):=fun h=>by rw[h]
   refine⟨_,zc l (i:=1) rfl,biE (fun j=>?_) fun j=>?_⟩
   ·have j:decide (c.thread=0)=true:=(u8d c.thread 0).symm.trans j;refine⟨_,zc l (i:=2) rfl,biE (fun f=>?_) fun f=>?_⟩
    ·have f:decide (c.n=0)=true:=(u8d c.n 0).symm.trans f;exact⟨_,zc l (i:=3) rfl,(),⟨.cons rfl (.cons rfl (.cons rfl (.cons rfl (.cons (aa (by unfold jV;rw[j,f];exact u8d c.val 0)) .nil)))),rfl⟩,rfl⟩
    ·have f:decide (c.n=0)=false:=(u8d c.n 0).symm.trans f;exact⟨(),⟨.cons rfl (.cons rfl (.cons rfl (.cons rfl (.cons (aa (by unfold jV;rw[j,f];rfl)) .nil)))),rfl⟩,rfl⟩
   ·have j:decide (c.thread=0)=false:=(u8d c.thread 0).symm.trans j;exact brF ⟨(),⟨.cons rfl (.cons rfl (.cons rfl (.cons rfl (.cons (aa (by unfold jV;rw[j];rfl)) .nil)))),rfl⟩,rfl⟩
  rintro _ _ rfl;refine⟨Unit,fun _=>⟨[(0,.pointer (some ⟨b,o,none⟩)),(1,i64 threads),(2,i64 locs),(3,i64 (d+1:Nat))],[]⟩,fun _ X=>zwv c/\w=X,?_,?_⟩
  ·have ah:c.kids.length<=140737488351232:=by have:=hk.inv.1;omega
   refine⟨_,zc l (i:=0) rfl,biE (fun t=>?_) fun t=>?_⟩
   ·have t:c.kind=0:=dT ((u8d c.kind 0).symm.trans t);have e:zaQ threads locs (d+1) c=(jV c&&decide (c.kids.length=0)):=(by rw[zbc,Gn t]);rw[e];refine biE (fun h=>?_) fun h=>?_
    ·have h:jV c=true:=h;exact⟨_,zc l (i:=4) rfl,rb (by rw[h,Uv];exact zcF),rfl⟩
    ·have h:jV c=false:=h;exact⟨rb (by rw[h];rfl),rfl⟩
   have t:¬c.kind=0:=dF ((u8d c.kind 0).symm.trans t);refine biE (fun j=>?_) fun j=>?_
   ·have j:c.kind=1:=dT ((u8d c.kind 1).symm.trans j);have e:zaQ threads locs (d+1) c=(decide (c.thread.toNat<threads)&&(decide (c.n.toNat<8)&&decide (c.kids.length=0))):=(by rw[zbc,Gm t,Gn j]);rw[e];refine⟨_,zc l (i:=1) rfl,_,jh _,biE (fun h=>?_) fun h=>?_⟩
    ·have h:decide (c.thread.toNat<threads)=true:=zey.symm.trans h;refine⟨_,zc l (i:=2) rfl,biE (fun f=>?_) fun f=>?_⟩
     ·have f:decide (c.n.toNat<8)=true:=(zey (b:=8)).symm.trans f;exact⟨_,zc l (i:=4) rfl,rb (by rw[h,f];exact zcF),rfl⟩
     ·have f:decide (c.n.toNat<8)=false:=(zey (b:=8)).symm.trans f;exact⟨rb (by rw[h,f];rfl),rfl⟩
    ·have h:decide (c.thread.toNat<threads)=false:=zey.symm.trans h;exact brF ⟨rb (by rw[h];rfl),rfl⟩
   have j:¬c.kind=1:=dF ((u8d c.kind 1).symm.trans j);refine biE (fun f=>?_) fun f=>?_
   ·have f:c.kind=2:=dT ((u8d c.kind 2).symm.trans f);have e:zaQ threads locs (d+1) c=(decide (c.n.toNat<locs)&&(decide (c.thread=0)&&decide (c.kids.length=0))):=(by rw[zbc,Gm t,Gm j,Gn f]);rw[e];refine⟨_,zc l (i:=2) rfl,_,jh _,biE (fun h=>?_) fun h=>?_⟩
    ·have h:decide (c.n.toNat<locs)=true:=zey.symm.trans h;refine⟨_,zc l (i:=1) rfl,biE (fun g=>?_) fun g=>?_⟩
     ·have g:decide (c.thread=0)=true:=(u8d c.thread 0).symm.trans g;exact⟨_,zc l (i:=4) rfl,rb (by rw[h,g];exact zcF),rfl⟩
     ·have g:decide (c.thread=0)=false:=(u8d c.thread 0).symm.trans g;exact⟨rb (by rw[h,g];rfl),rfl⟩
    ·have h:decide (c.n.toNat<locs)=false:=zey.symm.trans h;exact brF ⟨rb (by rw[h];rfl),rfl⟩
   have f:¬c.kind=2:=dF ((u8d c.kind 2).symm.trans f);have u:∀(z:c.kind=3\/c.kind=4),zaQ threads locs (d+1) c=(jV c&&(decide (2<=c.kids.length)&&c.kids.all (zaQ threads locs d))):=fun z=>by
    rw[zbc,Gm t,Gm j,Gm f,Gn z]
   refine biE (fun g=>?_) fun g=>?_
   ·have ae:decide ((c.kind.toNat:Int)=3)=true:=g;have g:c.kind=3\/c.kind=4 := .inl (dT ((u8d c.kind 3).symm.trans g));refine brE ae (biE (fun h=>?_) fun h=>?_)
    ·have h:(!jV c)=true:=h;have h:jV c=false:=(by simpa using h);exact brT ⟨rb (by rw[u g,h];rfl),rfl⟩
    ·have h:(!jV c)=false:=h;have h:jV c=true:=(by simpa using h);refine⟨_,zc l (i:=4) rfl,biE (fun a=>?_) fun a=>?_⟩
     ·have a:(c.kids.length:Int)<2:=dT a;exact⟨rb (by rw[u g,Ue (by omega)];simp),rfl⟩
     ·have a:¬(c.kids.length:Int)<2:=dF a;exact⟨(),(cvE rfl rfl),.inl ⟨g,h,by omega⟩,rfl⟩
   have g:¬c.kind=3:=dF ((u8d c.kind 3).symm.trans g);refine biE (fun a=>?_) fun a=>?_
   ·have g:c.kind=3\/c.kind=4 := .inr (dT ((u8d c.kind 4).symm.trans a));refine biE (fun h=>?_) fun h=>?_
    ·have h:(!jV c)=true:=h;have h:jV c=false:=(by simpa using h);exact brT ⟨rb (by rw[u g,h];rfl),rfl⟩
    ·have h:(!jV c)=false:=h;have h:jV c=true:=(by simpa using h);refine⟨_,zc l (i:=4) rfl,biE (fun a=>?_) fun a=>?_⟩
     ·have a:(c.kids.length:Int)<2:=dT a;exact⟨rb (by rw[u g,Ue (by omega)];simp),rfl⟩
     ·have a:¬(c.kids.length:Int)<2:=dF a;exact⟨(),(cvE rfl rfl),.inl ⟨g,h,by omega⟩,rfl⟩
   have a:¬c.kind=4:=dF ((u8d c.kind 4).symm.trans a);have ab:¬(c.kind=3\/c.kind=4):=fun h=>h.elim g a;refine biE (fun h5=>?_) fun h5=>?_
   ·have h5:c.kind=5:=dT ((u8d c.kind 5).symm.trans h5);have e:zaQ threads locs (d+1) c=(jV c&&(decide (c.kids.length=1)&&c.kids.all (zaQ threads locs d))):=(by rw[zbc,Gm t,Gm j,Gm f,Gm ab,Gn h5]);refine biE (fun h=>?_) fun h=>?_
    ·have h:(!jV c)=true:=h;have h:jV c=false:=(by simpa using h);exact brT ⟨rb (by rw[e,h];rfl),rfl⟩
    ·have h:(!jV c)=false:=h;have h:jV c=true:=(by simpa using h);refine⟨_,zc l (i:=4) rfl,biE (fun a=>?_) fun a=>?_⟩
     ·have a:(!decide ((c.kids.length:Int)=1))=true:=a;have a:¬(c.kids.length:Int)=1:=(by simpa using a);exact⟨rb (by rw[e,Ue (by omega)];simp),rfl⟩
     ·have a:(!decide ((c.kids.length:Int)=1))=false:=a;have a:(c.kids.length:Int)=1:=(by simpa using a);exact⟨(),(cvE rfl rfl),.inr ⟨h5,h,by omega⟩,rfl⟩
   have h5:¬c.kind=5:=dF ((u8d c.kind 5).symm.trans h5);exact⟨rb (by rw[zbc,Gm t,Gm j,Gm f,Gm ab,Gm h5]),rfl⟩
  rintro _ _ ⟨ha,rfl⟩;rw[zoA ha];refine⟨_,zc l (i:=4) rfl,?_⟩;obtain⟨hn,b1,o1,hp,af⟩:=hk.inv;refine⟨Nat,fun k=>⟨[(0,.pointer (some ⟨b,o,none⟩)),(1,i64 threads),(2,i64 locs),(3,i64 (d+1:Nat)),(124,i64 c.kids.length),(125,i64 (k:Nat))],[]⟩,fun k X=>k<=c.kids.length/\(∀x∈c.kids.take k,zaQ threads locs d x=true)/\w=X,fun k=>c.kids.length-k,0,
   (cvE rfl rfl),⟨UZ _,by simp,rfl⟩,?_⟩
  rintro k _ ⟨hk,m,rfl⟩;dsimp only at hk m ⊢;refine biE (fun r=>?_) fun r=>?_
  ·have r:(k:Int)<(c.kids.length:Int):=dT r;have y:k<c.kids.length:=by omega
   rcases hp with hp | rfl
   ·omega
   obtain⟨q,cq,ac,hq,ad⟩:=af k y;refine⟨_,zc l (i:=4) rfl,k,rfl,y,(d:Int),(ze (by omega)).trans (by omega),cmo (ih c.kids[k] b1 (o1+k*5) q cq (by omega) ac hq ad) ?_⟩;rintro e _ ⟨rfl,rfl⟩;refine biE (fun h=>?_) fun h=>?_
   ·have h:(!zaQ threads locs d c.kids[k])=true:=h;refine⟨rb ?_,rfl⟩;symm;rw[KL];exact⟨c.kids[k],gM _,by simpa using h⟩
   ·have h:(!zaQ threads locs d c.kids[k])=false:=h;refine⟨_,(ze (by omega)).trans rfl,k+1,(cvE rfl rfl),⟨y,?_,rfl⟩,zdc (by omega)⟩;rw[tsg y];intro x hx;rcases QN.1 hx with hx | hx
    ·exact m x hx
    ·simp only[KB] at hx;rw[hx];simpa using h
  ·have r:¬(k:Int)<(c.kids.length:Int):=dF r;obtain rfl:k=c.kids.length:=by omega
   rw[Qt] at m;exact⟨rb (Qg.2 m).symm,rfl⟩
theorem zxI{B threads locs cap:Nat}{p:OA}{c:Cnd}{w:Wd}(hB:B<=w.heap.size)(hk:KidsV B w p c.kids) :
  CB 100 #[.agg (zu c p cap).toArray,i64 threads,i64 locs] w (.bool (zaQ threads locs 20 c)):=by
 refine zD 10 [.agg (zu c p cap).toArray,i64 threads,i64 locs] Tryz.func100 ?_;have a:Bw w (w.alloc (.cells (zu c p cap).toArray 27)):=zba w _;have b:=zt w (.cells (zu c p cap).toArray 27);refine cmo (zne (B:=w.heap.size+1) (by rw[wz];omega) 20 c w.heap.size 0 p cap (by omega) (by omega) (za b) ((hk.kept (a.mono hB)).wider (by omega))) ?_;rintro e _ ⟨rfl,rfl⟩;exact⟨rfl,a⟩
theorem zmG{g:Nat}{p:Prg}{p1 p2 p3 p4:OA}{c1 c2 c3 c4 B:Nat}{w:Wd}(hc:zI w ⟨g,0,none⟩ (zaw p p1 c1 p2 c2 p3 c3 p4 c4))(hg:g<w.heap.size)(h1:RowB zgF B w p1 p.locs)(hB:B<=w.heap.size)(hcap:p.locs.length<=c1)(hl:PrgLen p) :
  CB 92 #[At0 g] w (.bool (zd6 p)):=by
 refine qA 56 [At0 g] (.s .p (.c .p .p)) Tryz.func92 ?_;have a:Bw w w.drew:=(Gb _ w).drew;have f:zI w.drew ⟨g,0,none⟩ (zaw p p1 c1 p2 c2 p3 c3 p4 c4):=zw a hc;have t:SlR zgF w.drew p1 p.locs:=(h1.below (a.mono hB)).slr (UL hB a.size);have ac:=hl.locs;refine⟨Unit,fun _=>⟨[(0,At0 g)],[]⟩,fun _ X=>(1<=p.locs.length/\p.locs.length<=6/\p.init.length=p.locs.length)/\X=w.drew,?_,?_⟩
 ·refine DrawE.ord [] [0,1,2,3,4,5,6,7,8,9,10,11,12,13,14,15,16,17,18,19,20,21,22,23,24,25,26] (by kernel_rfl) ⟨_,zc f (i:=1) rfl,biE (fun y=>?_) fun y=>?_⟩
  ·have y:(p.locs.length:Int)<1:=dT y;exact brT (brT ⟨rb (by unfold zd6;rw[Ue (by omega)];rfl),a⟩)
  ·have y:¬(p.locs.length:Int)<1:=dF y;refine⟨_,zc f (i:=1) rfl,biE (fun v=>?_) fun v=>?_⟩
   ·have v:(6:Int)<(p.locs.length:Int):=dT v;exact brT ⟨rb (by unfold zd6;rw[Ue (p:=p.locs.length<=6) (by omega)];simp),a⟩
   ·have v:¬(6:Int)<(p.locs.length:Int):=dF v;refine⟨_,zc f (i:=2) rfl,_,zc f (i:=1) rfl,biE (fun m=>?_) fun m=>?_⟩
    ·have m:(!decide ((p.init.length:Int)=(p.locs.length:Int)))=true:=m;have m:¬(p.init.length:Int)=(p.locs.length:Int):=(by simpa using m);exact⟨rb (by unfold zd6;rw[Ue (p:=p.init.length=p.locs.length) (by omega)];simp),a⟩
    ·have m:(!decide ((p.init.length:Int)=(p.locs.length:Int)))=false:=m;have m:(p.init.length:Int)=(p.locs.length:Int):=(by simpa using m);exact⟨(),(cvE rfl rfl),⟨by omega,by omega,by omega⟩,rfl⟩
 rintro _ _ ⟨⟨l1,l6,li⟩,rfl⟩;have u:zd6 p=zdA [] p.locs:=by unfold zd6;rw[Up l1,Up l6,Up li];rfl
 rw[u];refine⟨_,zc f (i:=1) rfl,?_⟩;refine⟨Nat,fun k=>⟨[(0,At0 g),(35,.slice p1 p.locs.length c1),(36,i64 p.locs.length),(37,i64 (k:Nat))],[]⟩,fun k X=>k<=p.locs.length/\zdA (p.locs.take k) (p.locs.drop k)=zdA [] p.locs/\X=w.drew,fun k=>p.locs.length-k,0,
  (cvE rfl rfl),⟨UZ _,rfl,rfl⟩,?_⟩
 rintro k _ ⟨hk,n,rfl⟩;dsimp only at hk n ⊢;refine biE (fun l=>?_) fun l=>?_
 ·have l:(k:Int)<(p.locs.length:Int):=dT l;have j:k<p.locs.length:=by omega
  obtain⟨b,o,rfl,hb,aa⟩:=t.at j;have ad:Bw w w.drew:=a;refine⟨k,rfl,j,_,zc (aa k j) (i:=0) rfl,?_⟩;have hs:p.locs[k].length<=140737488351232:=hl.loc _ (gM _);have d:zdA [] p.locs=(zd3 p.locs[k]&&(!((p.locs.take k).any fun q=>decide (q=p.locs[k]))&&zdA (p.locs.take (k+1)) (p.locs.drop (k+1)))):=by
   rw[<- n,Jp j,tsg j];rfl
  refine cmo (zxB p.locs[k] hs _) ?_;rintro e _ ⟨rfl,rfl⟩;refine biE (fun h=>?_) fun h=>?_
  ·have h:(!zd3 p.locs[k])=true:=h;have h:zd3 p.locs[k]=false:=by simpa using h
   exact brT ⟨rb (by rw[d,h];rfl),a⟩
  ·have h:(!zd3 p.locs[k])=false:=h;have h:zd3 p.locs[k]=true:=by simpa using h
   refine⟨_,zc f (i:=1) rfl,k,rfl,by omega,?_⟩;have z:SlR zgF w.drew (qJ (some ⟨b,o,none⟩) c1 0 1) (p.locs.take k):=SlR.sub t (lo:=0) (hi:=k) (UZ _) (by omega) hcap;have ab:(p.locs.take k).length=k:=by rw[Qr];omega
   have x:=zoP (qJ (some ⟨b,o,none⟩) c1 0 1) (c1-0) (p.locs.take k) p.locs[k] w.drew z (by omega);rw[ab] at x;refine cmo x ?_;rintro e _ ⟨rfl,rfl⟩;refine biE (fun r=>?_) fun r=>?_
   ·have r:((p.locs.take k).any fun q=>decide (q=p.locs[k]))=true:=r;exact⟨rb (by rw[d,r];simp),a⟩
   ·have r:((p.locs.take k).any fun q=>decide (q=p.locs[k]))=false:=r;exact⟨_,(ze (by omega)).trans rfl,k+1,(cvE rfl rfl),⟨j,by rw[d,h,r];rfl,rfl⟩,zdc (by omega)⟩
 ·have l:¬(k:Int)<(p.locs.length:Int):=dF l;obtain rfl:k=p.locs.length:=by omega
  rw[Qj] at n;exact⟨rb n,a⟩
structure DmV (B:Nat) (X:Wd) (g bx:Nat) (p:Prg):Prop where
 hB:B<=X.heap.size
 hg:g<X.heap.size
 len:PrgLen p
 h:∃p1 c1 p2 c2 p3 c3 p4 c4,zI X ⟨g,0,none⟩ (zaw p p1 c1 p2 c2 p3 c3 p4 c4)/\RowB zgF B X p1 p.locs/\RowB zS B X p2 p.init/\ThrsV B X p3 p.threads/\KidsV B X p4 p.cond.kids/\p.locs.length<=c1
 b:X.heap[bx]?=some (.cells #[At0 g] 88 (0,0))
 G:GlobC X
theorem DmV.below{B:Nat}{X Y:Wd}{g bx:Nat}{p:Prg}(h:DmV B X g bx p)(hb:Bw X Y):DmV B Y g bx p:=by
 obtain⟨m,f,s,q,c,d,r,j,i,n,l,o,e,k⟩:=h.h;have a:=hb.mono h.hB;exact⟨UL h.hB hb.size,nL h.hg hb.size,h.len,⟨m,f,s,q,c,d,r,j,zw hb i,n.below a,l.below a,o.below a,e.kept a,k⟩,zb hb h.b,h.G.below hb⟩
def zn0 (sel:Bool) (bx:Nat):Value:=match sel with
 | false => .func (.func 94) #[] #[]
 | true => .func (.func 96) #[] #[.pointer (some ⟨bx,0,none⟩)]
def zcS (sel:Bool) (p:Prg) (l:List InsD):Bool:=match sel with
 | false=>decide (l.length<=12)
 | true=>qI l p.locs.length
section
variable{B g bx:Nat}{p:Prg}{w:Wd}
theorem zux(q:OA)(cap:Nat)(l:List InsD):Calls PG 94 #[.slice q l.length cap] w fun e w'=>e = .returned (.bool (decide (l.length<=12)))/\w=w':=by
 refine zD 6 [.slice q l.length cap] Tryz.func94 ?_;refine⟨rb ?_,rfl⟩;rw[QC];show((l.length:Int)<=12)↔_;omega
theorem zr6(h:DmV B w g bx p){q:OA}{cap:Nat}{l:List InsD}(hl:SlR zU w q l)(hn:l.length<=140737488351232) :
  CB 96 #[.slice q l.length cap,At0 bx] w (.bool (qI l p.locs.length)):=by
 refine zD 11 [.slice q l.length cap,At0 bx] Tryz.func96 ?_;obtain⟨r,k,x,u,d,f,v,m,a,s,o,t,j,n⟩:=h.h;refine⟨_,zc (za h.b) (i:=0) rfl,_,zc a (i:=1) rfl,cmo (znx hl h.G hn) ?_⟩;rintro e V ⟨rfl,c⟩;exact⟨rfl,c⟩
theorem zpT(sel:Bool)(h:DmV B w g bx p):CB 88 #[zn0 sel bx,At0 bx] w (.bool (p.threads.all (zcS sel p))):=by
 refine zD 20 [zn0 sel bx,At0 bx] Tryz.func88 ?_;obtain⟨p1,c1,p2,c2,p3,c3,p4,c4,h0,h1,h2,h3,h4,h5⟩:=h.h;obtain⟨c,s,hr,m⟩:=h3;have ac:p.threads.length=c.length:=by rw[<- s,QJ]
 have ad:=h.len.threads;refine⟨_,zc (za h.b) (i:=0) rfl,_,zc h0 (i:=3) rfl,?_⟩;refine⟨Nat,fun k=>⟨[(0,zn0 sel bx),(1,At0 bx),(9,.slice p3 p.threads.length c3),(10,i64 p.threads.length),(11,i64 (k:Nat))],[]⟩,fun k X=>k<=p.threads.length/\(∀l∈p.threads.take k,zcS sel p l=true)/\Bw w X,fun k=>p.threads.length-k,0,
  (cvE rfl rfl),⟨UZ _,by simp,Gb _ _⟩,?_⟩
 rintro k X ⟨hk,f,a⟩;dsimp only at hk f ⊢;have hX:=h.below a;refine biE (fun u=>?_) fun u=>?_
 ·have u:(k:Int)<(p.threads.length:Int):=dT u;have j:k<p.threads.length:=by omega
  have r:k<c.length:=by omega
  have e1:p.threads[k]=c[k].1:=by simp[<- s]
  obtain⟨b,o,q,ab⟩:=hr.get;rcases q with q | rfl
  ·omega
  refine⟨k,rfl,j,?_⟩;obtain⟨z,aa⟩:=ab k r;refine⟨_,zc (jP (a.mono h.hB) z aa) (i:=0) rfl,?_⟩;have jO:SlR zU X c[k].2.1 c[k].1:=((m _ (gM r)).below (a.mono h.hB)).slr hX.hB;have v:c[k].1.length<=140737488351232:=by rw[<- e1];exact h.len.thread _ (gM _)
  have n:zcS sel p c[k].1=false->p.threads.all (zcS sel p)=false:=fun hf=>by
   rw[KL];exact⟨p.threads[k],gM _,by rw[e1,hf];simp⟩
  have y:zcS sel p c[k].1=true->∀l∈p.threads.take (k+1),zcS sel p l=true:=fun ht=>by
   rw[tsg j];intro x m;rcases QN.1 m with m | m
   ·exact f x m
   ·simp only[KB] at m;rw[m,e1];exact ht
  cases sel with
  | false =>
   refine cmo (zux c[k].2.1 c[k].2.2 c[k].1) ?_;rintro e _ ⟨rfl,rfl⟩;refine biE (fun d=>?_) fun d=>?_
   ·have d:(!zcS false p c[k].1)=true:=d;exact⟨rb (n (by simpa using d)).symm,a⟩
   ·have d:(!zcS false p c[k].1)=false:=d;exact⟨_,(ze (by omega)).trans rfl,k+1,(cvE rfl rfl),⟨j,y (by simpa using d),a⟩,zdc (by omega)⟩
  | true =>
   refine cmo (zr6 hX (cap:=c[k].2.2) jO v) ?_;rintro e Y ⟨rfl,t⟩;refine biE (fun d=>?_) fun d=>?_
   ·have d:(!zcS true p c[k].1)=true:=d;exact⟨rb (n (by simpa using d)).symm,(zst a t)⟩
   ·have d:(!zcS true p c[k].1)=false:=d;exact⟨_,(ze (by omega)).trans rfl,k+1,(cvE rfl rfl),⟨j,y (by simpa using d),(zst a t)⟩,zdc (by omega)⟩
 ·have u:¬(k:Int)<(p.threads.length:Int):=dF u;obtain rfl:k=p.threads.length:=by omega
  rw[Qt] at f;exact⟨rb (Qg.2 f).symm,a⟩
theorem zxn(h:DmV B w g bx p):CB 89 #[At0 bx] w (.bool (zeC p.name)):=by
 refine zD 7 [At0 bx] Tryz.func89 ?_;obtain⟨o,k,u,s,d,f,t,l,a,q,n,r,j,m⟩:=h.h;refine⟨_,zc (za h.b) (i:=0) rfl,_,zc a (i:=0) rfl,cmo (zta p.name h.len.name w) ?_⟩;rintro e V ⟨rfl,c⟩;exact⟨rfl,c⟩
theorem zxm(h:DmV B w g bx p):CB 91 #[At0 bx] w (.bool (zd6 p)):=by
 refine zD 4 [At0 bx] Tryz.func91 ?_;obtain⟨q,m,u,s,j,k,t,n,a,d,o,r,l,c⟩:=h.h;refine⟨_,zc (za h.b) (i:=0) rfl,cmo (zmG a h.hg d h.hB c h.len) ?_⟩;rintro e V ⟨rfl,f⟩;exact⟨rfl,f⟩
def evV (bx:Nat):Value := .func (.func 88) #[] #[At0 bx]
theorem zxl(h:DmV B w g bx p){ev:Nat}(hev:w.heap[ev]?=some (.cells #[evV bx] 173 (0,0))):CB 93 #[At0 bx,At0 ev] w (.bool (decide (1<=p.threads.length)&&(decide (p.threads.length<=4)&&p.threads.all fun l=>decide (l.length<=12)))):=by
 refine zD 21 [At0 bx,At0 ev] Tryz.func93 ?_;obtain⟨s,n,y,v,j,k,x,o,f,t,r,u,m,q⟩:=h.h;refine⟨_,zc (za h.b) (i:=0) rfl,_,zc f (i:=3) rfl,biE (fun a=>?_) fun a=>?_⟩
 ·have a:(1:Int)<=(p.threads.length:Int):=dT a;refine⟨_,zc (za h.b) (i:=0) rfl,_,zc f (i:=3) rfl,biE (fun c=>?_) fun c=>?_⟩
  ·have c:(p.threads.length:Int)<=4:=dT c;refine⟨_,zc (za hev) (i:=0) rfl,cmo (zpT false h) ?_⟩;rintro e V ⟨rfl,d⟩;refine⟨rb ?_,d⟩;rw[Up (by omega),Up (by omega),Uv,Uv];rfl
  ·have c:¬(p.threads.length:Int)<=4:=dF c;exact⟨rb (by rw[Ue (p:=p.threads.length<=4) (by omega)];simp),Gb _ _⟩
 ·have a:¬(1:Int)<=(p.threads.length:Int):=dF a;exact brF ⟨rb (by rw[Ue (p:=1<=p.threads.length) (by omega)];rfl),Gb _ _⟩
theorem zxk(h:DmV B w g bx p){ev:Nat}(hev:w.heap[ev]?=some (.cells #[evV bx] 173 (0,0))):CB 95 #[At0 ev,At0 bx] w (.bool (p.threads.all fun l=>qI l p.locs.length)):=by
 refine zD 6 [At0 ev,At0 bx] Tryz.func95 ?_;refine⟨_,zc (za hev) (i:=0) rfl,cmo (zpT true h) ?_⟩;rintro e V ⟨rfl,a⟩;exact⟨rfl,a⟩
theorem zxj(h:DmV B w g bx p):CB 98 #[At0 bx] w (.bool (decide (p.ask=1)||(decide (p.ask=2)||decide (p.ask=3)))):=by
 refine zD 21 [At0 bx] Tryz.func98 ?_;obtain⟨o,k,u,s,e,f,t,l,d,q,n,r,j,m⟩:=h.h;refine⟨_,zc (za h.b) (i:=0) rfl,_,zc d (i:=4) rfl,biE (fun a=>?_) fun a=>?_⟩
 ·have a:decide (p.ask=1)=true:=(u8d p.ask 1).symm.trans a;exact brT ⟨rb (by rw[a];rfl),Gb _ _⟩
 ·have a:decide (p.ask=1)=false:=(u8d p.ask 1).symm.trans a;refine⟨_,zc (za h.b) (i:=0) rfl,_,zc d (i:=4) rfl,biE (fun c=>?_) fun c=>?_⟩
  ·have c:decide (p.ask=2)=true:=(u8d p.ask 2).symm.trans c;exact⟨rb (by rw[a,c];rfl),Gb _ _⟩
  ·have c:decide (p.ask=2)=false:=(u8d p.ask 2).symm.trans c;exact⟨_,zc (za h.b) (i:=0) rfl,_,zc d (i:=4) rfl,rb (by rw[a,c];exact u8d p.ask 3),Gb _ _⟩
theorem zxi(h:DmV B w g bx p):CB 99 #[At0 bx] w (.bool (zaQ p.threads.length p.locs.length 20 p.cond)):=by
 refine zD 17 [At0 bx] Tryz.func99 ?_;have c:Bw w w.drew:=(Gb _ w).drew;have a:=h.below c;obtain⟨u,r,z,y,o,q,l,k,f,v,t,x,j,s⟩:=a.h;refine DrawE.ord [] [0,1,2,3,4,5,6,7,8,9,10,11,12,13,14,15] (by kernel_rfl) ⟨_,zc (za a.b) (i:=0) rfl,zu p.cond l k,rfl,zP (n:=5) (m:=5) f,a.hg,_,zc (za a.b) (i:=0) rfl,_,zc f (i:=3) rfl,_,zc (za a.b) (i:=0) rfl,_,zc f (i:=1) rfl,cmo (zxI a.hB j) ?_⟩;rintro e V ⟨rfl,d⟩;exact⟨d,rfl,c.trans d⟩
def zxh (bx ev:Nat):List Value:=[i64 70,.func (.func 89) #[] #[At0 bx],i64 71,.func (.func 91) #[] #[At0 bx],
 i64 72,.func (.func 93) #[] #[At0 bx,At0 ev],i64 73,.func (.func 95) #[] #[At0 ev,At0 bx],
 i64 75,.func (.func 98) #[] #[At0 bx],i64 74,.func (.func 99) #[] #[At0 bx]]
theorem zrj{g:Nat}{w:Wd}:Calls PG 46 #[At0 g] w fun e w'=>e = .returned (.slice (some ⟨w.heap.size+2,0,none⟩) 6 6) /\
  w'.heap[w.heap.size]?=some (.cells #[At0 g] 88 (0,0))/\w'.heap[w.heap.size+1]?=some (.cells #[evV w.heap.size] 173 (0,0)) /\
  w'.heap[w.heap.size+2]?=some (.cells (zxh w.heap.size (w.heap.size+1)).toArray 120 (0,0))/\w'.heap.size=w.heap.size+3/\Bw w w':=by
 refine zD 18 [At0 g] Tryz.func46 ?_;have c:=wz w (.cells (At0 g).cells 88);refine zo (X:=w.alloc (.cells (At0 g).cells 88)) (v:=evV w.heap.size) zyC rfl rfl rfl fun V a d b=>?_;replace a:Below _ _ _:=a;generalize hev:(w.alloc (.cells (At0 g).cells 88)).heap.size=ev at *;refine⟨[i64 70,.func (.func 89) #[] #[.pointer (some ⟨w.heap.size,0,none⟩)]],rfl,[i64 71,.func (.func 91) #[] #[.pointer (some ⟨w.heap.size,0,none⟩)]],rfl,[i64 72,.func (.func 93) #[] #[.pointer (some ⟨w.heap.size,0,none⟩),At0 ev]],rfl,[i64 73,.func (.func 95) #[] #[At0 ev,.pointer (some ⟨w.heap.size,0,none⟩)]],rfl,[i64 75,.func (.func 98) #[] #[.pointer (some ⟨w.heap.size,0,none⟩)]],rfl,[i64 74,.func (.func 99) #[] #[.pointer (some ⟨w.heap.size,0,none⟩)]],rfl,⟨by decide,by decide,rfl⟩,zxh w.heap.size ev,rfl,?_⟩;subst c;refine⟨?_,?_,?_,?_,?_,?_⟩
 ·rw[b];rfl
 ·exact qO _ (zb (show Below _ _ _ from hev▸a) (zt w _))
 ·exact qO _ d
 ·rw[show w.heap.size+2=V.heap.size from b.symm];exact zt _ _
 ·rw[wz,b]
 ·exact(((zba w _)).trans (a.mono (by omega))).alloc (by omega) _
end
def okL (p:Prg):List Bool:=[zeC p.name,zd6 p,decide (1<=p.threads.length)&&(decide (p.threads.length<=4)&&p.threads.all fun l=>decide (l.length<=12)),p.threads.all (fun l=>qI l p.locs.length),
 decide (p.ask=1)||(decide (p.ask=2)||decide (p.ask=3)),zaQ p.threads.length p.locs.length 20 p.cond]
theorem zpw{p:Prg}:zbp p=(okL p).all id:=by
 unfold zbp okL;simp only[Ux,List.all_nil,Bool.and_true,id]
theorem zga{B:Nat}{p:Prg}{vs:List Value}{w:Wd}(hB:B<=w.heap.size)(hp:PrgV B w vs p)(hG:GlobC w) :
  Calls PG 14 #[.agg vs.toArray] w fun e w'=>∃n:Int,e = .returned (i64 n)/\(n=0↔zbp p=true)/\Bw w w':=by
 obtain⟨hl,p1,c1,p2,c2,p3,c3,p4,c4,rfl,h1,h2,h3,h4,h5⟩:=hp;refine zD 18 [.agg (zaw p p1 c1 p2 c2 p3 c3 p4 c4).toArray] Tryz.func14 ?_;obtain⟨L,hL⟩:=nm (w.heap.size);have hn:=zt w (.cells (Value.agg (zaw p p1 c1 p2 c2 p3 c3 p4 c4).toArray).cells 29);have hs:=wz w (.cells (Value.agg (zaw p p1 c1 p2 c2 p3 c3 p4 c4).toArray).cells 29);have a:Bw w (w.alloc (.cells (Value.agg (zaw p p1 c1 p2 c2 p3 c3 p4 c4).toArray).cells 29)):=zba w _;refine cmo zrj ?_;rintro e V ⟨rfl,z,r,d,ac,aa⟩;have g:Bw w V:=zst a aa;have ab:some (Value.slice (some ⟨(w.alloc (.cells (Value.agg (zaw p p1 c1 p2 c2 p3 c3 p4 c4).toArray).cells 29)).heap.size+2,0,none⟩) 6 6)=some (Value.slice (some ⟨L+3,0,none⟩) 6 6):=by rw[hs,hL]
 have y:DmV B V L (L+1) p:=by
  have x:=g.mono hB;rw[hs,<- hL] at z;refine⟨UL hB g.size,by omega,hl,⟨p1,c1,p2,c2,p3,c3,p4,c4,za (zb aa (hL▸hn)),h1.below x,h2.below x,h3.below x,h4.kept x,h5⟩,z,hG.below g⟩
 rw[hs,<- hL] at r d;clear hn hs a z aa ac;refine⟨Nat,fun j=>⟨[(5,.slice (some ⟨L+3,0,none⟩) 6 6),(6,i64 6),(7,i64 (j:Nat))],[]⟩,
  fun j X=>j<=6/\(∀i,i<j->(okL p)[i]?=some true)/\DmV B X L (L+1) p/\X.heap[L+2]?=some (.cells #[evV (L+1)] 173 (0,0))/\X.heap[L+3]?=some (.cells (zxh (L+1) (L+2)).toArray 120 (0,0))/\Bw w X,fun j=>6-j,0,
  ⟨.cons ab (.cons rfl (.cons rfl .nil)),rfl⟩,⟨UZ _,fun i hi=>by omega,y,r,d,g⟩,?_⟩
 clear y r d g ab;rintro j X ⟨hj,o,y,r,d,g⟩;dsimp only at hj o ⊢;refine biE (fun hc=>?_) fun hc=>?_
 ·have hc:(j:Int)<6:=dT hc;have u:∀{i:Nat},(okL p)[i]?=some false->zbp p=false:=fun h=>by rw[zpw];exact ztY h
  have ad:j=0\/j=1\/j=2\/j=3\/j=4\/j=5:=by omega
  rcases ad with rfl | rfl | rfl | rfl | rfl | rfl
  ·refine⟨0,rfl,by decide,?_⟩;refine⟨[i64 70,.func (.func 89) #[] #[At0 (L+1)]],rfl,zP (n:=0) (m:=2) (za d),hlt d,zo (X:=X) (v := .agg [i64 70,.func (.func 89) #[] #[At0 (L+1)]].toArray) zq8 rfl rfl rfl fun Y c t sY=>?_⟩;have s:=y.below c;have f:=zb c r;have k:=zb c d;refine⟨_,zc (za t) (i:=1) rfl,cmo (zxn s) ?_⟩;rintro e W ⟨rfl,b⟩;have l:Bw w W:=((zst g c)).trans (b.mono (UL g.size c.size));refine biE (fun a=>?_) fun a=>?_
   ·have a:(!((okL p)[0]'(by show 0<6;decide)))=true:=a;have a:(okL p)[0]?=some false:=(by rw[gE (by show 0<6;decide)];exact Gi some (by rw[<- UE ((okL p)[0]'(by show 0<6;decide)),a];rfl));exact⟨_,zc (za (zb b t)) (i:=0) rfl,70,rfl,⟨fun h=>Gp h (by decide),fun h=>by rw[u a] at h;cases h⟩,l⟩
   ·have a:(!((okL p)[0]'(by show 0<6;decide)))=false:=a;have a:(okL p)[0]?=some true:=(by rw[gE (by show 0<6;decide)];exact Gi some (by rw[<- UE ((okL p)[0]'(by show 0<6;decide)),a];rfl));refine⟨_,(ze (by omega)).trans rfl,1,(cvE rfl rfl),⟨by omega,fun i hi=>?_,s.below b,zb b f,zb b k,l⟩,by decide⟩;by_cases q:i=0
    ·rw[q];exact a
    ·exact o i (by omega)
  ·refine⟨1,rfl,by decide,?_⟩;refine⟨[i64 71,.func (.func 91) #[] #[At0 (L+1)]],rfl,zP (n:=2) (m:=2) (za d),hlt d,zo (X:=X) (v := .agg [i64 71,.func (.func 91) #[] #[At0 (L+1)]].toArray) zq8 rfl rfl rfl fun Y c t sY=>?_⟩;have s:=y.below c;have f:=zb c r;have k:=zb c d;refine⟨_,zc (za t) (i:=1) rfl,cmo (zxm s) ?_⟩;rintro e W ⟨rfl,b⟩;have l:Bw w W:=((zst g c)).trans (b.mono (UL g.size c.size));refine biE (fun a=>?_) fun a=>?_
   ·have a:(!((okL p)[1]'(by show 1<6;decide)))=true:=a;have a:(okL p)[1]?=some false:=(by rw[gE (by show 1<6;decide)];exact Gi some (by rw[<- UE ((okL p)[1]'(by show 1<6;decide)),a];rfl));exact⟨_,zc (za (zb b t)) (i:=0) rfl,71,rfl,⟨fun h=>Gp h (by decide),fun h=>by rw[u a] at h;cases h⟩,l⟩
   ·have a:(!((okL p)[1]'(by show 1<6;decide)))=false:=a;have a:(okL p)[1]?=some true:=(by rw[gE (by show 1<6;decide)];exact Gi some (by rw[<- UE ((okL p)[1]'(by show 1<6;decide)),a];rfl));refine⟨_,(ze (by omega)).trans rfl,2,(cvE rfl rfl),⟨by omega,fun i hi=>?_,s.below b,zb b f,zb b k,l⟩,by decide⟩;by_cases q:i=1
    ·rw[q];exact a
    ·exact o i (by omega)
  ·refine⟨2,rfl,by decide,?_⟩;refine⟨[i64 72,.func (.func 93) #[] #[At0 (L+1),At0 (L+2)]],rfl,zP (n:=4) (m:=2) (za d),hlt d,zo (X:=X) (v := .agg [i64 72,.func (.func 93) #[] #[At0 (L+1),At0 (L+2)]].toArray) zq8 rfl rfl rfl fun Y c t sY=>?_⟩;have s:=y.below c;have f:=zb c r;have k:=zb c d;refine⟨_,zc (za t) (i:=1) rfl,cmo (zxl s f) ?_⟩;rintro e W ⟨rfl,b⟩;have l:Bw w W:=((zst g c)).trans (b.mono (UL g.size c.size));refine biE (fun a=>?_) fun a=>?_
   ·have a:(!((okL p)[2]'(by show 2<6;decide)))=true:=a;have a:(okL p)[2]?=some false:=(by rw[gE (by show 2<6;decide)];exact Gi some (by rw[<- UE ((okL p)[2]'(by show 2<6;decide)),a];rfl));exact⟨_,zc (za (zb b t)) (i:=0) rfl,72,rfl,⟨fun h=>Gp h (by decide),fun h=>by rw[u a] at h;cases h⟩,l⟩
   ·have a:(!((okL p)[2]'(by show 2<6;decide)))=false:=a;have a:(okL p)[2]?=some true:=(by rw[gE (by show 2<6;decide)];exact Gi some (by rw[<- UE ((okL p)[2]'(by show 2<6;decide)),a];rfl));refine⟨_,(ze (by omega)).trans rfl,3,(cvE rfl rfl),⟨by omega,fun i hi=>?_,s.below b,zb b f,zb b k,l⟩,by decide⟩;by_cases q:i=2
    ·rw[q];exact a
    ·exact o i (by omega)
  ·refine⟨3,rfl,by decide,?_⟩;refine⟨[i64 73,.func (.func 95) #[] #[At0 (L+2),At0 (L+1)]],rfl,zP (n:=6) (m:=2) (za d),hlt d,zo (X:=X) (v := .agg [i64 73,.func (.func 95) #[] #[At0 (L+2),At0 (L+1)]].toArray) zq8 rfl rfl rfl fun Y c t sY=>?_⟩;have s:=y.below c;have f:=zb c r;have k:=zb c d;refine⟨_,zc (za t) (i:=1) rfl,cmo (zxk s f) ?_⟩;rintro e W ⟨rfl,b⟩;have l:Bw w W:=((zst g c)).trans (b.mono (UL g.size c.size));refine biE (fun a=>?_) fun a=>?_
   ·have a:(!((okL p)[3]'(by show 3<6;decide)))=true:=a;have a:(okL p)[3]?=some false:=(by rw[gE (by show 3<6;decide)];exact Gi some (by rw[<- UE ((okL p)[3]'(by show 3<6;decide)),a];rfl));exact⟨_,zc (za (zb b t)) (i:=0) rfl,73,rfl,⟨fun h=>Gp h (by decide),fun h=>by rw[u a] at h;cases h⟩,l⟩
   ·have a:(!((okL p)[3]'(by show 3<6;decide)))=false:=a;have a:(okL p)[3]?=some true:=(by rw[gE (by show 3<6;decide)];exact Gi some (by rw[<- UE ((okL p)[3]'(by show 3<6;decide)),a];rfl));refine⟨_,(ze (by omega)).trans rfl,4,(cvE rfl rfl),⟨by omega,fun i hi=>?_,s.below b,zb b f,zb b k,l⟩,by decide⟩;by_cases q:i=3
    ·rw[q];exact a
    ·exact o i (by omega)
  ·refine⟨4,rfl,by decide,?_⟩;refine⟨[i64 75,.func (.func 98) #[] #[At0 (L+1)]],rfl,zP (n:=8) (m:=2) (za d),hlt d,zo (X:=X) (v := .agg [i64 75,.func (.func 98) #[] #[At0 (L+1)]].toArray) zq8 rfl rfl rfl fun Y c t sY=>?_⟩;have s:=y.below c;have f:=zb c r;have k:=zb c d;refine⟨_,zc (za t) (i:=1) rfl,cmo (zxj s) ?_⟩;rintro e W ⟨rfl,b⟩;have l:Bw w W:=((zst g c)).trans (b.mono (UL g.size c.size));refine biE (fun a=>?_) fun a=>?_
   ·have a:(!((okL p)[4]'(by show 4<6;decide)))=true:=a;have a:(okL p)[4]?=some false:=(by rw[gE (by show 4<6;decide)];exact Gi some (by rw[<- UE ((okL p)[4]'(by show 4<6;decide)),a];rfl));exact⟨_,zc (za (zb b t)) (i:=0) rfl,75,rfl,⟨fun h=>Gp h (by decide),fun h=>by rw[u a] at h;cases h⟩,l⟩
   ·have a:(!((okL p)[4]'(by show 4<6;decide)))=false:=a;have a:(okL p)[4]?=some true:=(by rw[gE (by show 4<6;decide)];exact Gi some (by rw[<- UE ((okL p)[4]'(by show 4<6;decide)),a];rfl));refine⟨_,(ze (by omega)).trans rfl,5,(cvE rfl rfl),⟨by omega,fun i hi=>?_,s.below b,zb b f,zb b k,l⟩,by decide⟩;by_cases q:i=4
    ·rw[q];exact a
    ·exact o i (by omega)
  ·refine⟨5,rfl,by decide,?_⟩;refine⟨[i64 74,.func (.func 99) #[] #[At0 (L+1)]],rfl,zP (n:=10) (m:=2) (za d),hlt d,zo (X:=X) (v := .agg [i64 74,.func (.func 99) #[] #[At0 (L+1)]].toArray) zq8 rfl rfl rfl fun Y c t sY=>?_⟩;have s:=y.below c;have f:=zb c r;have k:=zb c d;refine⟨_,zc (za t) (i:=1) rfl,cmo (zxi s) ?_⟩;rintro e W ⟨rfl,b⟩;have l:Bw w W:=((zst g c)).trans (b.mono (UL g.size c.size));refine biE (fun a=>?_) fun a=>?_
   ·have a:(!((okL p)[5]'(by show 5<6;decide)))=true:=a;have a:(okL p)[5]?=some false:=(by rw[gE (by show 5<6;decide)];exact Gi some (by rw[<- UE ((okL p)[5]'(by show 5<6;decide)),a];rfl));exact⟨_,zc (za (zb b t)) (i:=0) rfl,74,rfl,⟨fun h=>Gp h (by decide),fun h=>by rw[u a] at h;cases h⟩,l⟩
   ·have a:(!((okL p)[5]'(by show 5<6;decide)))=false:=a;have a:(okL p)[5]?=some true:=(by rw[gE (by show 5<6;decide)];exact Gi some (by rw[<- UE ((okL p)[5]'(by show 5<6;decide)),a];rfl));refine⟨_,(ze (by omega)).trans rfl,6,(cvE rfl rfl),⟨by omega,fun i hi=>?_,s.below b,zb b f,zb b k,l⟩,by decide⟩;by_cases q:i=5
    ·rw[q];exact a
    ·exact o i (by omega)
 ·have hc:¬(j:Int)<6:=dF hc;obtain rfl:j=6:=by omega
  exact⟨0,rfl,⟨fun _=>by rw[zpw];exact znv o rfl,fun _=>rfl⟩,g⟩
def ThrsW (B:Nat) (w:Wd) (p:OA) (l:List (List InsD)):Prop:=∃xs:List zoO,xs.map (·.1)=l/\RowB zr7 B w p xs/\∀x∈xs,RowB zU B w x.2.1 x.1/\(x.1≠[]->∀a,x.2.1=some a->a.block<B)
structure PrgX (B:Nat) (w:Wd) (vs:List Value) (p:Prg):Prop where
 v:PrgV B w vs p
 th:∃p3 c3,vs[3]?=some (.slice p3 p.threads.length c3)/\ThrsW B w p3 p.threads
 init:∃p2 c2,vs[2]?=some (.slice p2 p.init.length c2)/\RowB zS B w p2 p.init
theorem ThrsW.below{B:Nat}{w w2:Wd}{p:OA}{l:List (List InsD)}(h:ThrsW B w p l)(hb:Below B w w2):ThrsW B w2 p l:=by
 obtain⟨e,d,c,a⟩:=h;exact⟨e,d,c.below hb,fun x b=>⟨(a x b).1.below hb,(a x b).2⟩⟩
theorem PrgX.below{B:Nat}{w w2:Wd}{vs:List Value}{p:Prg}(h:PrgX B w vs p)(hb:Below B w w2):PrgX B w2 vs p:=by
 obtain⟨g,⟨a,b,e,f⟩,⟨j,i,c,d⟩⟩:=h;exact⟨g.below hb,⟨a,b,e,f.below hb⟩,⟨j,i,c,d.below hb⟩⟩
theorem zhD{α:Type}{E:Enc α}{B:Nat}{w:Wd}{p:OA}{l:List α}(h:RowB E B w p l){i:Nat}(hi:i<l.length):∃b o,p=some ⟨b,o,none⟩/\b<B/\∀i (h:i<l.length),zI w ⟨b,o+i*E.sz,none⟩ (E.enc l[i]):=by
 obtain⟨b,o,c,a⟩:=h.get;rcases c with c | c
 ·omega
 ·exact⟨b,o,c,(a i hi).1,fun j d=>(a j d).2⟩
structure RunK (l:List InsD) (R:RunD):Prop where
 m:R.many<=R.pc
 p:R.pc<=l.length
 d:∀i,R.deps i<2^32
 c:R.ctl<2^32
 s:∀i,R.data i<2^32/\R.ctrl i<2^32/\R.att i<2^32
theorem zwO{n:Nat}(h:n<32):2^n<2^32:=Kf (by decide) h
theorem zkI{f:Nat->Nat}{b:Nat}(h:∀i,f i<b){k v:Nat}(hv:v<b):∀i,upd f k v i<b:=fun i=>by
 by_cases e:i=k
 ·rw[e,zN];exact hv
 ·rw[qx _ _ e];exact h i
theorem RunK.emit{l:List InsD}{R:RunD}(h:RunK l R){k a v m:UInt8}{d:Nat}(hd:d<2^32):(∀i,(jF R k a v m d).deps i<2^32)/\(jF R k a v m d).ctl<2^32/\∀i,(jF R k a v m d).data i<2^32/\(jF R k a v m d).ctrl i<2^32/\(jF R k a v m d).att i<2^32:=by
 unfold jF;exact⟨h.d,h.c,fun i=>⟨zkI (fun i=>(h.s i).1) hd i,zkI (fun i=>(h.s i).2.1) h.c i,(h.s i).2.2⟩⟩
theorem RunK.exec{l:List InsD}{R:RunD}{x:InsD}{v:UInt8}(h:RunK l R)(hx:zue x)(hp:R.pc<l.length)(h12:l.length<=12):RunK l (zY R x v):=by
 obtain⟨e,f⟩:=zvq (R:=R) (v:=v) hx;have j:=h.m;have g:=zwO (n:=R.many) (by omega);have c:(∀i,(zY R x v).deps i<2^32)/\(zY R x v).ctl<2^32/\∀i,(zY R x v).data i<2^32/\(zY R x v).ctrl i<2^32/\(zY R x v).att i<2^32:=by
  unfold zY zdO;rcases hx with⟨b,_⟩ | ⟨b,_⟩ | b
  ·rw[Gn b];have:=h.emit (k:=1) (a:=x.loc) (v:=v) (m:=x.mode) (d:=0) (by decide);exact⟨zkI this.1 g,this.2.1,this.2.2⟩
  ·rw[Gm (by rw[b];decide),Gn b];refine h.emit (k:=2) (a:=x.loc) (v:=(qE x.ar x.an R).1) (m:=x.mode) ?_;unfold qE
   split
   ·exact h.d _
   ·exact(by decide:0<2^32)
  ·rw[Gm (by rw[b];decide),Gm (by rw[b];decide),Gm (by rw[b];decide),Gm (by rw[b];decide),Gm (by rw[b];decide),Gm (by rw[b];decide),Gn b];exact h.emit (k:=3) (a:=0) (v:=0) (m:=x.mode) (d:=0) (by decide)
 exact⟨by rw[e,f];omega,by rw[e];omega,c.1,c.2.1,c.2.2⟩
theorem RunK.go{l:List InsD}(h12:l.length<=12)(hx:∀x∈l,zue x):∀(n:Nat) (R:RunD),RunK l R->RunK l (goR l n R)
 | 0,R,h=>h
 | n+1,R,h=>by
  unfold goR
  split
  ·exact h
  ·rename_i x a
   split
   ·exact h
   ·have b:=(Jr.1 a).1;have c:x∈l:=JW a;exact RunK.go h12 hx n _ (h.exec (hx x c) b h12)
theorem RunK.spread{l:List InsD}{dom:List UInt8}(h12:l.length<=12)(hx:∀x∈l,zue x):∀(n:Nat) (R:RunD),RunK l R->∀S∈zT l dom n R,RunK l S
 | 0,R,h,S,a=>by
  have a:S∈[goR l l.length R]:=a;rw[KB] at a;rw[a];exact RunK.go h12 hx _ _ h
 | n+1,R,h,S,a=>by
  have c:=RunK.go h12 hx l.length R h;unfold zT at a
  split at a
  ·rw[KB] at a;rw[a];exact c
  ·rename_i x b;obtain⟨v,_,a⟩:=List.mem_flatMap.1 a;have d:=(Jr.1 b).1;have e:x∈l:=JW b;exact RunK.spread h12 hx n _ (c.exec (hx x e) d h12) S a
section
variable{w:Wd}
theorem zuV{k:UInt8}{kids:List Cnd}{q:OA}{cap:Nat}:CB 39 #[u8 k,.slice q kids.length cap] w (zbK (.mk k 0 0 0 kids) q cap):=by
 refine zD 8 [u8 k,.slice q kids.length cap] Tryz.func39 ?_;have a:=zt w (.cells #[.int .u8 0,.int .u8 0,.int .u8 0,.int .u8 0,.slice none 0 0] 27);exact⟨zu (.mk k 0 0 0 kids) q cap,rfl,zp (v:=zbK (.mk k 0 0 0 kids) q cap) k27 a rfl rfl rfl ⟨_,rfl,za (zn a),rfl,zk ((zba w _)) (UW _) _⟩⟩
theorem zwh{t n v:UInt8}:CB 40 #[u8 t,u8 n,u8 v] w (zbK (.mk 1 t n v []) none 0):=by
 refine zD 11 [u8 t,u8 n,u8 v] Tryz.func40 ?_;have a:=zt w (.cells #[.int .u8 0,.int .u8 0,.int .u8 0,.int .u8 0,.slice none 0 0] 27);exact⟨zu (.mk 1 t n v []) none 0,rfl,zp (v:=zbK (.mk 1 t n v []) none 0) k27 a rfl rfl rfl ⟨_,rfl,za (zn a),rfl,zk ((zba w _)) (UW _) _⟩⟩
def zwy:List Value:=List.replicate 38 (.int .u8 0)
def zqZ:List Value:=List.replicate 32 (.int .u8 0)++[.int .u8 1,.int .u8 1,.int .u8 0,.int .u8 0,.int .u8 0,.int .u8 0]
theorem zdZ{a b:UInt8}:CB 43 #[u8 a,u8 b] w (zaq (qj a b)):=by
 refine qA 17 [u8 a,u8 b] (.s .p (.c .p (.c .p .p))) Tryz.func43 ?_;have e:(w.alloc (.cells (List.replicate 38 (.int .u8 0)).toArray 52)).heap[w.heap.size]?=some (.cells zwy.toArray 52 (0,0)):=zt w _;have n:Bw w (w.alloc (.cells (List.replicate 38 (.int .u8 0)).toArray 52)):=zba w _;have i:(w.alloc (.cells (List.replicate 38 (.int .u8 0)).toArray 52)).heap.size=w.heap.size+1:=wz _ _;refine⟨Unit,fun _=>⟨[(0,u8 a),(1,u8 b),(4,At0 w.heap.size),(5,At0 (w.heap.size+1))],[]⟩,fun _ X=>X.heap[w.heap.size]?=some (.cells zwy.toArray 52 (0,0))/\X.heap[w.heap.size+1]?=some (.cells zqZ.toArray 52 (0,0))/\Bw w X,?_,?_⟩
 ·refine⟨[.int .u8 1,.int .u8 1,.int .u8 0,.int .u8 0,.int .u8 0,.int .u8 0],rfl,zqZ,by kernel_rfl,?_⟩;have d:=zt (w.alloc (.cells (List.replicate 38 (.int .u8 0)).toArray 52)) (.cells (List.replicate 38 (.int .u8 0)).toArray 52);refine zp (v := .agg zqZ.toArray) k52 d (by kernel_rfl) (by kernel_rfl) (by kernel_rfl) ?_;have d:=zn (cs':=(Value.agg zqZ.toArray).cells) d;have q:=zk (n.alloc (by omega) (.cells (List.replicate 38 (.int .u8 0)).toArray 52)) (g:=(w.alloc (.cells (List.replicate 38 (.int .u8 0)).toArray 52)).heap.size) (by omega) (Value.agg zqZ.toArray).cells;have h:=(zr (cs:=(Value.agg zqZ.toArray).cells) (show w.heap.size≠(w.alloc (.cells (List.replicate 38 (.int .u8 0)).toArray 52)).heap.size by omega)).trans (qO (.cells (List.replicate 38 (.int .u8 0)).toArray 52) e);refine⟨(),⟨.cons rfl (.cons rfl (.cons rfl (.cons (by rw[<- i];rfl) .nil))),rfl⟩,h,?_,q⟩;rw[<- i];exact d
 rintro _ X ⟨e,d,f⟩;refine⟨Unit,fun _=>⟨[(4,At0 w.heap.size),(5,At0 (w.heap.size+1))],[]⟩,fun _ X=>X.heap[w.heap.size]?=some (.cells zwy.toArray 52 (0,0))/\X.heap[w.heap.size+1]?=some (.cells (zx.enc (qj a b)).toArray 52 (0,0))/\Bw w X,?_,?_⟩
 ·refine⟨0,rfl,by decide,?_⟩;refine⟨0,rfl,by decide,?_⟩;refine zm k5 d (o:=0+0+0*8+0*1) (v:=u8 a) rfl rfl (by decide) rfl fun Y r l u=>⟨1,rfl,by decide,?_⟩;refine⟨0,rfl,by decide,?_⟩;refine zm k5 r (o:=0+0+1*8+0*1) (v:=u8 b) rfl rfl (by rw[QL];decide) rfl fun Z k m t=>?_;have j:=zd l m;exact⟨(),(cvE rfl rfl),(j.block _ (hlt e) (by simp)).trans e,k,f.trans (zl j f.size (by omega))⟩
 rintro _ X ⟨e,d,f⟩;exact⟨zx.enc (qj a b),rfl,za d,hlt d,zp (v:=zaq (qj a b)) k52 e rfl rfl rfl ⟨zx.enc (qj a b),rfl,za (zn e),rfl,zk f (UW _) _⟩⟩
theorem zcM:Calls PG 38 #[] w fun e w'=>(∃vs:List Value,e = .returned (.agg vs.toArray)/\PrgX w'.heap.size w' vs zgW)/\Bw w w':=by
 refine qA 13 [] (.c .p .p) Tryz.func38 ?_;obtain⟨L,hL⟩:=nm (w.heap.size);refine⟨Unit,fun _=>⟨[(0,At0 L)],[]⟩,fun _ X=>(∃cs:Array Value,X.heap[L]?=some (.cells cs 29 (0,0))/\cs.size=10)/\X.heap.size=L+1/\Bw w X,⟨(),⟨.cons (by rw[hL];rfl) .nil,rfl⟩,⟨_,by rw[hL];exact zt w _,by kernel_rfl⟩,by rw[wz,hL],(zba w _)⟩,?_⟩;rintro _ W ⟨⟨cs,fL,ah⟩,sW,aj⟩;obtain⟨la,ak⟩:=nm ([stV 0 1 0,ldV 0 1 0]);obtain⟨lb,al⟩:=nm ([stV 1 1 0,ldV 0 0 0]);obtain⟨W1,f⟩:=nm (W.alloc (.cells #[qH [120],qH [121]] 9));obtain⟨W2,j⟩:=nm (W1.alloc (.cells #[u8 0,u8 0] 5));obtain⟨W3,g⟩:=nm (W2.alloc (.cells (zU.enc (stV 0 1 0)++zU.enc (ldV 0 1 0)).toArray 68));obtain⟨W4,m⟩:=nm (W3.alloc (.cells (zU.enc (stV 1 1 0)++zU.enc (ldV 0 0 0)).toArray 68));obtain⟨W5,n⟩:=nm (W4.alloc (.cells #[.slice (some ⟨W2.heap.size,0,none⟩) 2 2,.slice (some ⟨W3.heap.size,0,none⟩) 2 2] 64));have ag:Bw W W1:=by rw[f];exact(zba W _)
 have af:Bw W1 W2:=by rw[j];exact(zba W1 _)
 have ai:Bw W2 W3:=by rw[g];exact(zba W2 _)
 have y:Bw W3 W4:=by rw[m];exact(zba W3 _)
 have t:Bw W4 W5:=by rw[n];exact(zba W4 _)
 have f1:W1.heap[W.heap.size]?=some (.cells #[qH [120],qH [121]] 9 (0,0)):=by rw[f];exact zt W _
 have f2:W2.heap[W1.heap.size]?=some (.cells #[u8 0,u8 0] 5 (0,0)):=by rw[j];exact zt W1 _
 have f3:W3.heap[W2.heap.size]?=some (.cells (zU.enc (stV 0 1 0)++zU.enc (ldV 0 1 0)).toArray 68 (0,0)):=by rw[g];exact zt W2 _
 have f4:W4.heap[W3.heap.size]?=some (.cells (zU.enc (stV 1 1 0)++zU.enc (ldV 0 0 0)).toArray 68 (0,0)):=by rw[m];exact zt W3 _
 have f5:W5.heap[W4.heap.size]?=some (.cells #[.slice (some ⟨W2.heap.size,0,none⟩) 2 2,.slice (some ⟨W3.heap.size,0,none⟩) 2 2] 64 (0,0)):=by rw[n];exact zt W4 _
 have s1:W1.heap.size=L+2:=by rw[f,wz,sW]
 have s2:W2.heap.size=L+3:=by rw[j,wz,s1]
 have s3:W3.heap.size=L+4:=by rw[g,wz,s2]
 have s4:W4.heap.size=L+5:=by rw[m,wz,s3]
 have s5:W5.heap.size=L+6:=by rw[n,wz,s4]
 refine⟨⟨by decide,by decide,rfl⟩,[qH [120],qH [121]],rfl,?_⟩;have ab:W.alloc (.cells [qH [120],qH [121]].toArray 9)=W1:=f.symm;rw[ab];refine⟨⟨by decide,by decide,rfl⟩,[u8 0,u8 0],rfl,?_⟩;have z:W1.alloc (.cells [u8 0,u8 0].toArray 5)=W2:=j.symm;rw[z];refine⟨[.bool false,u8 1],rfl,zU.enc (stV 0 1 0),rfl,zU.enc (ldV 0 1 0),rfl,⟨by decide,by decide,rfl⟩,zU.enc (stV 0 1 0)++zU.enc (ldV 0 1 0),by kernel_rfl,?_⟩;rw[<- g];refine⟨[.bool false,u8 1],rfl,zU.enc (stV 1 1 0),rfl,zU.enc (ldV 0 0 0),rfl,⟨by decide,by decide,rfl⟩,zU.enc (stV 1 1 0)++zU.enc (ldV 0 0 0),by kernel_rfl,?_⟩;rw[<- m];refine⟨⟨by decide,by decide,rfl⟩,[.slice (some ⟨W2.heap.size,0,none⟩) 2 2,.slice (some ⟨W3.heap.size,0,none⟩) 2 2],rfl,?_⟩;have ac:W4.alloc (.cells [.slice (some ⟨W2.heap.size,0,none⟩) 2 2,.slice (some ⟨W3.heap.size,0,none⟩) 2 2].toArray 64)=W5:=n.symm;rw[ac];obtain⟨vs,b⟩:=nm (zaw zgW (some ⟨W.heap.size,0,none⟩) 2 (some ⟨W1.heap.size,0,none⟩) 2 (some ⟨W4.heap.size,0,none⟩) 2 none 0);refine⟨vs,by rw[b];rfl,?_⟩;have aa:=zst ag af;have ae:=zst ai y;have d:=zst ae t;have r:Bw W W5:=zst aa d;have ad:W5.heap[L]?=some (.cells cs 29 (0,0)):=zb r fL;have q:vs.length=10:=by rw[b];rfl
 have u:vs.all Value.oneCell'=true:=by rw[b];rfl
 refine zp (v := .agg vs.toArray) k29 ad q ah u ?_;obtain⟨Y,hY⟩:=nm (W5.setRow L (Value.agg vs.toArray).cells);rw[<- hY];have fY:Y.heap[L]?=some (.cells vs.toArray 29 (0,0)):=by rw[hY];exact zn ad
 have oY:∀k,k≠L->Y.heap[k]?=W5.heap[k]?:=fun k hk=>by rw[hY];exact zr hk
 have sY:Y.heap.size=W5.heap.size:=by rw[hY];simp
 have bY:Bw w Y:=by rw[hY];exact zk ((zst aj r)) (by omega) _
 refine⟨vs,q,za fY,⟨vs,rfl,?_⟩,bY⟩;have g1:Y.heap[W.heap.size]?=some (.cells #[qH [120],qH [121]] 9 (0,0)):=(oY _ (by omega)).trans (zb d (zb af f1));have g2:Y.heap[W1.heap.size]?=some (.cells #[u8 0,u8 0] 5 (0,0)):=(oY _ (by omega)).trans (zb d f2);have g3:Y.heap[W2.heap.size]?=some (.cells (zU.enc (stV 0 1 0)++zU.enc (ldV 0 1 0)).toArray 68 (0,0)):=(oY _ (by omega)).trans (zb t (zb y f3));have g4:Y.heap[W3.heap.size]?=some (.cells (zU.enc (stV 1 1 0)++zU.enc (ldV 0 0 0)).toArray 68 (0,0)):=(oY _ (by omega)).trans (zb t f4);have g5:Y.heap[W4.heap.size]?=some (.cells #[.slice (some ⟨W2.heap.size,0,none⟩) 2 2,.slice (some ⟨W3.heap.size,0,none⟩) 2 2] 64 (0,0)):=(oY _ (by omega)).trans f5;have r3:RowB zr7 Y.heap.size Y (some ⟨W4.heap.size,0,none⟩) [([stV 0 1 0,ldV 0 1 0],some ⟨W2.heap.size,0,none⟩,2),([stV 1 1 0,ldV 0 0 0],some ⟨W3.heap.size,0,none⟩,2)] := .inr ⟨W4.heap.size,0,rfl,hlt g5,za g5⟩;have ra:RowB zU Y.heap.size Y (some ⟨W2.heap.size,0,none⟩) [stV 0 1 0,ldV 0 1 0] := .inr ⟨W2.heap.size,0,rfl,hlt g3,za g3⟩;have rb:RowB zU Y.heap.size Y (some ⟨W3.heap.size,0,none⟩) [stV 1 1 0,ldV 0 0 0] := .inr ⟨W3.heap.size,0,rfl,hlt g4,za g4⟩;have o:∀x∈[(([stV 0 1 0,ldV 0 1 0],some ⟨W2.heap.size,0,none⟩,2):zoO),([stV 1 1 0,ldV 0 0 0],some ⟨W3.heap.size,0,none⟩,2)],RowB zU Y.heap.size Y x.2.1 x.1/\(x.1≠[]->∀a,x.2.1=some a->a.block<Y.heap.size):=by
  simp only[UA,Qs,Gk,forall_eq_or_imp,forall_eq];exact⟨⟨ra,fun _ a h=>by cases h;exact hlt g3⟩,rb,fun _ a h=>by cases h;exact hlt g4⟩
 refine⟨⟨⟨by show 2<=_;decide,by show 2<=_;decide,fun s hs=>?_,by show 2<=_;decide,by show 2<=_;decide,fun l hl=>?_⟩,some ⟨W.heap.size,0,none⟩,2,some ⟨W1.heap.size,0,none⟩,2,some ⟨W4.heap.size,0,none⟩,2,none,0,b,?_,?_,?_,?_,?_⟩,?_,?_⟩
 ·have hs:s=[120]\/s=[121]:=by simpa [zgW] using hs
  rcases hs with rfl | rfl <;> decide
 ·have hl:l=[stV 0 1 0,ldV 0 1 0]\/l=[stV 1 1 0,ldV 0 0 0]:=by simpa [zgW] using hl
  rcases hl with rfl | rfl <;> (show 2<=140737488351232;decide)
 ·exact .inr ⟨W.heap.size,0,rfl,hlt g1,za g1⟩
 ·exact .inr ⟨W1.heap.size,0,rfl,hlt g2,za g2⟩
 ·exact⟨_,rfl,r3,fun x hx=>(o x hx).1⟩
 ·exact .mk none [] (by decide) 0 0 (.inl rfl) (fun _=>none) (fun _=>0) (fun i hi=>by simp at hi) (fun i hi=>by simp at hi)
 ·exact UW 2
 ·exact⟨some ⟨W4.heap.size,0,none⟩,2,by rw[b];rfl,_,rfl,r3,o⟩
 ·exact⟨some ⟨W1.heap.size,0,none⟩,2,by rw[b];rfl,.inr ⟨W1.heap.size,0,rfl,hlt g2,za g2⟩⟩
end
end Go.Proofs.YtakcdebpklffiaaGreatDoor
namespace Go.Proofs
open Go.Shelf
def Tryz.lays156_ren:Go.Shelf.Ren:=⟨fun | 156=>49 | 165=>102 | 166=>103 | 169=>104 | 240=>176 | 241=>177 | 276=>249 | 277=>250 | n=>n,fun | 31=>22 | 9=>9 | 3=>3 | 4=>4 | 0=>0 | 20=>20 | 72=>177 | 76=>179 | 70=>175 | 37=>23 | 75=>61 | 127=>269 | 164=>343 | 5=>5 | 80=>181 | n=>n,fun | n=>n⟩
theorem Tryz.lays156:Go.Proofs.Lays.n156 PG Tryz.lays156_ren:={
 mixed:=by kernel_rfl
 f156:=Tryz.func49.trans (Gi some (by kernel_rfl))
 f165:=Tryz.func102.trans (Gi some (by kernel_rfl))
 f166:=Tryz.func103.trans (Gi some (by kernel_rfl))
 f169:=Tryz.func104.trans (Gi some (by kernel_rfl))
 f240:=Tryz.func176.trans (Gi some (by kernel_rfl))
 f241:=Tryz.func177.trans (Gi some (by kernel_rfl))
 f276:=Tryz.func249.trans (Gi some (by kernel_rfl))
 f277:=Tryz.func250.trans (Gi some (by kernel_rfl))
 t0:=Tryz.underlying0
 a0:=Tryz.isAgg0
 z0:=Tryz.sizeOf0
 v0:=Tryz.zeroValue0
 t3:=Tryz.underlying3
 a3:=Tryz.isAgg3
 z3:=Tryz.sizeOf3
 v3:=Tryz.zeroValue3
 t4:=Tryz.underlying4
 a4:=Tryz.isAgg4
 z4:=Tryz.sizeOf4
 v4:=Tryz.zeroValue4
 t9:=Tryz.underlying9
 a9:=Tryz.isAgg9
 z9:=Tryz.sizeOf9
 v9:=Tryz.zeroValue9
 t20:=Tryz.underlying20
 a20:=Tryz.isAgg20
 z20:=Tryz.sizeOf20
 v20:=Tryz.zeroValue20
 t31:=Tryz.underlying22
 a31:=Tryz.isAgg22
 z31:=Tryz.sizeOf22
 v31:=Tryz.zeroValue22
 t37:=Tryz.underlying23
 a37:=Tryz.isAgg23
 z37:=Tryz.sizeOf23
 v37:=Tryz.zeroValue23
 t70:=Tryz.underlying175
 a70:=Tryz.isAgg175
 z70:=Tryz.sizeOf175
 v70:=Tryz.zeroValue175
 t72:=Tryz.underlying177
 a72:=Tryz.isAgg177
 z72:=Tryz.sizeOf177
 v72:=Tryz.zeroValue177
 t75:=Tryz.underlying61
 a75:=Tryz.isAgg61
 z75:=Tryz.sizeOf61
 v75:=Tryz.zeroValue61
 t76:=Tryz.underlying179
 a76:=Tryz.isAgg179
 z76:=Tryz.sizeOf179
 v76:=Tryz.zeroValue179
 t127:=Tryz.underlying269
 a127:=Tryz.isAgg269
 z127:=Tryz.sizeOf269
 v127:=Tryz.zeroValue269
 t164:=Tryz.underlying343
 a164:=Tryz.isAgg343
 z164:=Tryz.sizeOf343
 v164:=Tryz.zeroValue343 }
theorem Tryz.Builder_Extra_156:Builder.Extra PG Tryz.lays156_ren:={
 sizeBuilder:=by kernel_rfl
 liesBuilder:=by kernel_rfl
 t5:=Tryz.underlying5
 a5:=Tryz.isAgg5
 z5:=Tryz.sizeOf5
 v5:=Tryz.zeroValue5
 infoByte:=by kernel_rfl
 cellsByte:=by kernel_rfl
 sizeByte:=by kernel_rfl
 neB5:=by decide }
open Go.RowKit in
theorem Tryz.strings_Join(bk o c:Nat)(xs:List ByteArray)(sep:ByteArray)(w:Wd)(hcells:∀(j:Nat) x,xs[j]?=some x→w.cell? ⟨bk,o+j,none⟩=some (.string x))(hbk:bk<w.heap.size)(hN:xs.length≤140737488355328)(hcap:xs.length≤c)(hlen:(Lib.join (xs.map (·.data.toList)) sep.data.toList).length≤140737488355328) :
  Calls PG 49 #[.slice (some ⟨bk,o,none⟩) xs.length c,.string sep] w fun e w'=>e = .returned (.string ⟨(Lib.join (xs.map (·.data.toList)) sep.data.toList).toArray⟩)∧Below w.heap.size w w':=Any.strings_Join Tryz.lays156 Tryz.Builder_Extra_156 bk o c xs sep w hcells hbk hN hcap hlen
def Tryz.lays171_ren:Go.Shelf.Ren:=⟨fun | 171=>48 | 243=>101 | 246=>175 | 283=>245 | 284=>246 | 285=>247 | 286=>248 | 129=>227 | 317=>301 | 318=>302 | 319=>303 | 320=>304 | 337=>269 | 338=>255 | n=>n,fun | 3=>3 | 9=>9 | 2=>2 | 4=>4 | 171=>339 | 0=>0 | 53=>59 | 37=>23 | 5=>5 | 173=>341 | 212=>387 | 51=>203 | 20=>20 | 213=>388 | 46=>186 | 232=>399 | 233=>393 | n=>n,fun | 17=>4 | 18=>8 | 19=>7 | n=>n⟩
theorem Tryz.lays171:Go.Proofs.Lays.n171 PG Tryz.lays171_ren:={
 mixed:=by kernel_rfl
 f129:=Tryz.func227.trans (Gi some (by kernel_rfl))
 f171:=Tryz.func48.trans (Gi some (by kernel_rfl))
 f243:=Tryz.func101.trans (Gi some (by kernel_rfl))
 f246:=Tryz.func175.trans (Gi some (by kernel_rfl))
 f283:=Tryz.func245.trans (Gi some (by kernel_rfl))
 f284:=Tryz.func246.trans (Gi some (by kernel_rfl))
 f285:=Tryz.func247.trans (Gi some (by kernel_rfl))
 f286:=Tryz.func248.trans (Gi some (by kernel_rfl))
 f317:=Tryz.func301.trans (Gi some (by kernel_rfl))
 f318:=Tryz.func302.trans (Gi some (by kernel_rfl))
 f319:=Tryz.func303.trans (Gi some (by kernel_rfl))
 f320:=Tryz.func304.trans (Gi some (by kernel_rfl))
 f337:=Tryz.func269.trans (Gi some (by kernel_rfl))
 f338:=Tryz.func255.trans (Gi some (by kernel_rfl))
 t0:=Tryz.underlying0
 a0:=Tryz.isAgg0
 z0:=Tryz.sizeOf0
 v0:=Tryz.zeroValue0
 t2:=Tryz.underlying2
 a2:=Tryz.isAgg2
 z2:=Tryz.sizeOf2
 v2:=Tryz.zeroValue2
 t3:=Tryz.underlying3
 a3:=Tryz.isAgg3
 z3:=Tryz.sizeOf3
 v3:=Tryz.zeroValue3
 t4:=Tryz.underlying4
 a4:=Tryz.isAgg4
 z4:=Tryz.sizeOf4
 v4:=Tryz.zeroValue4
 t5:=Tryz.underlying5
 a5:=Tryz.isAgg5
 z5:=Tryz.sizeOf5
 v5:=Tryz.zeroValue5
 t9:=Tryz.underlying9
 a9:=Tryz.isAgg9
 z9:=Tryz.sizeOf9
 v9:=Tryz.zeroValue9
 t20:=Tryz.underlying20
 a20:=Tryz.isAgg20
 z20:=Tryz.sizeOf20
 v20:=Tryz.zeroValue20
 t37:=Tryz.underlying23
 a37:=Tryz.isAgg23
 z37:=Tryz.sizeOf23
 v37:=Tryz.zeroValue23
 t46:=Tryz.underlying186
 a46:=Tryz.isAgg186
 z46:=Tryz.sizeOf186
 v46:=Tryz.zeroValue186
 t51:=Tryz.underlying203
 a51:=Tryz.isAgg203
 z51:=Tryz.sizeOf203
 v51:=Tryz.zeroValue203
 t53:=Tryz.underlying59
 a53:=Tryz.isAgg59
 z53:=Tryz.sizeOf59
 v53:=Tryz.zeroValue59
 t171:=Tryz.underlying339
 a171:=Tryz.isAgg339
 z171:=Tryz.sizeOf339
 v171:=Tryz.zeroValue339
 t173:=Tryz.underlying341
 a173:=Tryz.isAgg341
 z173:=Tryz.sizeOf341
 v173:=Tryz.zeroValue341
 t212:=Tryz.underlying387
 a212:=Tryz.isAgg387
 z212:=Tryz.sizeOf387
 v212:=Tryz.zeroValue387
 t213:=Tryz.underlying388
 a213:=Tryz.isAgg388
 z213:=Tryz.sizeOf388
 t232:=Tryz.underlying399
 a232:=Tryz.isAgg399
 z232:=Tryz.sizeOf399
 v232:=Tryz.zeroValue399
 t233:=Tryz.underlying393
 a233:=Tryz.isAgg393
 z233:=Tryz.sizeOf393
 v233:=Tryz.zeroValue393
 g17:=by kernel_rfl
 g18:=by kernel_rfl
 g19:=by kernel_rfl }
open Go.RowKit Go.Sort Go.Lib in
theorem Tryz.strconv_Itoa_small(i:Nat)(hi:i<100)(w:Wd) :
  Calls PG 48 #[.int .i64 i] w fun e w'=>e = .returned (.string ⟨(Lib.decDigits i).toArray⟩)∧w'=w:=Any.strconv_Itoa_small Tryz.lays171 i hi w
def Tryz.laysSlF06_f85_ren:Go.Shelf.Ren:=⟨fun | 6=>85 | 15=>168 | 14=>167 | 28=>226 | 29=>227 | 20=>218 | 21=>219 | 22=>220 | 23=>221 | 24=>222 | 25=>223 | 26=>224 | 27=>225 | 46=>292 | 47=>293 | 48=>294 | 49=>295 | 50=>296 | 57=>311 | n=>n,fun | 22=>40 | 24=>52 | 25=>172 | 3=>3 | 39=>186 | 0=>0 | 53=>203 | 55=>59 | 4=>4 | 46=>320 | 45=>319 | 50=>192 | 5=>5 | 9=>9 | 66=>374 | 70=>378 | 76=>400 | 77=>401 | n=>n,fun | n=>n⟩
theorem Tryz.laysSlF06_f85:Go.Proofs.SlLaysF0.n6 PG Tryz.laysSlF06_f85_ren:={
 mixed:=by kernel_rfl
 f6:=⟨Tryz.f85.name,by decide,Tryz.func85.trans (Gi some (by kernel_rfl))⟩
 f14:=⟨Tryz.f167.name,by decide,Tryz.func167.trans (Gi some (by kernel_rfl))⟩
 f15:=Tryz.func168.trans (Gi some (by kernel_rfl))
 f20:=⟨Tryz.f218.name,by decide,Tryz.func218.trans (Gi some (by kernel_rfl))⟩
 f21:=⟨Tryz.f219.name,by decide,Tryz.func219.trans (Gi some (by kernel_rfl))⟩
 f22:=⟨Tryz.f220.name,by decide,Tryz.func220.trans (Gi some (by kernel_rfl))⟩
 f23:=⟨Tryz.f221.name,by decide,Tryz.func221.trans (Gi some (by kernel_rfl))⟩
 f24:=⟨Tryz.f222.name,by decide,Tryz.func222.trans (Gi some (by kernel_rfl))⟩
 f25:=⟨Tryz.f223.name,by decide,Tryz.func223.trans (Gi some (by kernel_rfl))⟩
 f26:=⟨Tryz.f224.name,by decide,Tryz.func224.trans (Gi some (by kernel_rfl))⟩
 f27:=⟨Tryz.f225.name,by decide,Tryz.func225.trans (Gi some (by kernel_rfl))⟩
 f28:=Tryz.func226.trans (Gi some (by kernel_rfl))
 f29:=Tryz.func227.trans (Gi some (by kernel_rfl))
 f46:=⟨Tryz.f292.name,by decide,Tryz.func292.trans (Gi some (by kernel_rfl))⟩
 f47:=Tryz.func293.trans (Gi some (by kernel_rfl))
 f48:=Tryz.func294.trans (Gi some (by kernel_rfl))
 f49:=⟨Tryz.f295.name,by decide,Tryz.func295.trans (Gi some (by kernel_rfl))⟩
 f50:=⟨Tryz.f296.name,by decide,Tryz.func296.trans (Gi some (by kernel_rfl))⟩
 f57:=⟨Tryz.f311.name,by decide,Tryz.func311.trans (Gi some (by kernel_rfl))⟩
 t0:=Tryz.underlying0
 a0:=Tryz.isAgg0
 z0:=Tryz.sizeOf0
 v0:=Tryz.zeroValue0
 t3:=Tryz.underlying3
 a3:=Tryz.isAgg3
 z3:=Tryz.sizeOf3
 v3:=Tryz.zeroValue3
 t4:=Tryz.underlying4
 a4:=Tryz.isAgg4
 z4:=Tryz.sizeOf4
 v4:=Tryz.zeroValue4
 t5:=Tryz.underlying5
 a5:=Tryz.isAgg5
 z5:=Tryz.sizeOf5
 v5:=Tryz.zeroValue5
 t9:=Tryz.underlying9
 a9:=Tryz.isAgg9
 z9:=Tryz.sizeOf9
 v9:=Tryz.zeroValue9
 t22:=Tryz.underlying40
 a22:=Tryz.isAgg40
 z22:=Tryz.sizeOf40
 v22:=Tryz.zeroValue40
 t25:=Tryz.underlying172
 a25:=Tryz.isAgg172
 z25:=Tryz.sizeOf172
 v25:=Tryz.zeroValue172
 t39:=Tryz.underlying186
 a39:=Tryz.isAgg186
 z39:=Tryz.sizeOf186
 v39:=Tryz.zeroValue186
 t45:=Tryz.underlying319
 a45:=Tryz.isAgg319
 z45:=Tryz.sizeOf319
 v45:=Tryz.zeroValue319
 t46:=Tryz.underlying320
 a46:=Tryz.isAgg320
 z46:=Tryz.sizeOf320
 v46:=Tryz.zeroValue320
 t50:=Tryz.underlying192
 a50:=Tryz.isAgg192
 z50:=Tryz.sizeOf192
 v50:=Tryz.zeroValue192
 t53:=Tryz.underlying203
 a53:=Tryz.isAgg203
 z53:=Tryz.sizeOf203
 v53:=Tryz.zeroValue203
 t55:=Tryz.underlying59
 a55:=Tryz.isAgg59
 z55:=Tryz.sizeOf59
 v55:=Tryz.zeroValue59
 t66:=Tryz.underlying374
 a66:=Tryz.isAgg374
 z66:=Tryz.sizeOf374
 v66:=Tryz.zeroValue374
 t70:=Tryz.underlying378
 a70:=Tryz.isAgg378
 z70:=Tryz.sizeOf378
 v70:=Tryz.zeroValue378
 t76:=Tryz.underlying400
 a76:=Tryz.isAgg400
 z76:=Tryz.sizeOf400
 v76:=Tryz.zeroValue400
 t77:=Tryz.underlying401
 a77:=Tryz.isAgg401
 z77:=Tryz.sizeOf401
 v77:=Tryz.zeroValue401 }
open Go.RowKit Go.Lib Go.Sort in
theorem Tryz.slices_SortFunc_none{α:Type}[Inhabited α](p:OA)(cap:Nat)(fv:Value)(w:Wd) :
  Calls PG 85 #[.slice p 0 cap,fv] w fun e w'=>e = .returned (.tuple #[])∧w'=w:=AnyF.slices_SortFunc_none Tryz.laysSlF06_f85 p cap fv w
open Go.RowKit Go.Lib Go.Sort in
theorem Tryz.slices_SortFunc_total{α:Type}[Inhabited α](k:Nat)(aE:∀w,(isAgg (Tryz.laysSlF06_f85_ren.t 24)).run PG w = .ok true w)(zE:∀w,(Go.sizeOf (Tryz.laysSlF06_f85_ren.t 24)).run PG w = .ok k w)(enc:α→List Value)(hk:∀x,(enc x).length=k)(h1:∀x,∀v∈enc x,v.oneCell'=true)(cf:α→α→Int)(hO:SWO (ltOf cf))(g:Nat)(cb:Array Value)(blk off cap:Nat)(d:Array α)(w:Wd)(eg:∀args w,(callFunc g args).run PG w = .ok (.enter g args) w)(hcmp:CmpLays PG g cb enc k cf blk off d.size w)(hH:HoldsK enc k w blk off d)(hblk:blk<w.heap.size)(hsz:d.size<4611686018427387904)(hT:∀x y,(ltOf cf) x y=false→(ltOf cf) y x=false→x=y) :
  Calls PG 85 #[.slice (some ⟨blk,off,none⟩) d.size cap,.func (.func g) #[] cb] w fun e w' =>
   e = .returned (.tuple #[])∧∃n os,w'=sortWorldK enc k w blk off n (d.toList.mergeSort fun x y => !(ltOf cf) y x).toArray os:=AnyQ.slices_SortFunc_total Tryz.laysSlF06_f85 k aE zE enc hk h1 cf hO g cb blk off cap d w eg hcmp hH hblk hsz hT
end Go.Proofs
namespace Go.Proofs.YtakcdebpklffiaaGreatDoor
open Go.Vc Go.RowKit Go.Sei
def wOp (o:UInt8):Bool:=decide (o=1)||(decide (o=3)||(decide (o=4)||(decide (o=5)||decide (o=6))))
def zcd (l:List InsD) (r:Nat):Bool:=l.any fun x=>wOp x.op&&decide (x.dst.toNat=r)
theorem zrK{l:List InsD}{k:Nat}(h:k<l.length)(r:Nat):zcd (l.take (k+1)) r=(zcd (l.take k) r||(wOp l[k].op&&decide (l[k].dst.toNat=r))):=by
 unfold zcd;rw[tsg h,List.any_append];simp
def zcx (n:Nat):List UInt8:=if n<10 then[UInt8.ofNat (48+n)] else if n<100 then[UInt8.ofNat (48+n/10),UInt8.ofNat (48+n%10)] else[UInt8.ofNat (48+n/10/10),UInt8.ofNat (48+n/10%10),UInt8.ofNat (48+n%10)]
theorem zvD{n:Nat}(h:n<1000):Lib.decDigits n=zcx n:=by
 unfold zcx;by_cases a:n<10
 ·rw[Gn a,Lib.decDigits,dif_pos a]
 ·rw[Gm a,Lib.decDigits,dif_neg a];by_cases b:n<100
  ·rw[Gn b,Lib.decDigits,dif_pos (by omega)];rfl
  ·rw[Gm b,Lib.decDigits,dif_neg (by omega),Lib.decDigits,dif_pos (by omega)];rfl
theorem zcu(n:Nat):(zcx n).length<=3:=by
 unfold zcx
 split
 ·simp
 ·split <;> simp
def zn4 (F:FinV) (t r:Nat):List UInt8:=zcx t++[58,114]++zcx r++[61]++zcx (F.reg t r).toNat
def zq2 (F:FinV) (k:Nat) (name:List UInt8):List UInt8:=name++[61]++zcx (F.mem k).toNat
def zeR (F:FinV) (l:List InsD) (t r:Nat):List (List UInt8):=((List.range r).filter (zcd l)).map (zn4 F t)
def zc3 (F:FinV) (ts:List (List InsD)) (k:Nat):List (List UInt8):=(List.range k).flatMap fun t=>zeR F (ts.getD t []) t 8
def zdb (F:FinV) (ls:List (List UInt8)) (k:Nat):List (List UInt8):=(List.range k).map fun i=>zq2 F i (ls.getD i [])
def zrR (p:Prg) (F:FinV):List (List UInt8):=zc3 F p.threads p.threads.length++zdb F p.locs p.locs.length
def zo3 (p:Prg) (F:FinV):List UInt8:=if zbp p=true then Lib.join (zrR p F) [32] else[]
theorem zn3(F:FinV)(l:List InsD)(t r:Nat):zeR F l t (r+1)=zeR F l t r++if zcd l r=true then[zn4 F t r] else[]:=by
 unfold zeR;rw[QS,Kw,QM,Qk,List.filter_nil]
 split <;> rfl
theorem znJ(F:FinV)(ts:List (List InsD))(k:Nat):zc3 F ts (k+1)=zc3 F ts k++zeR F (ts.getD k []) k 8:=by
 unfold zc3;rw[QS,Kh,List.flatMap_singleton]
theorem zol(F:FinV)(ls:List (List UInt8))(k:Nat):zdb F ls (k+1)=zdb F ls k++[zq2 F k (ls.getD k [])]:=by
 unfold zdb;rw[QS,QM];rfl
theorem zss(F:FinV)(t r:Nat):(zn4 F t r).length<=20:=by
 have:=zcu t;have:=zcu r;have:=zcu (F.reg t r).toNat;unfold zn4;simp only[lap,Qp,QK];omega
theorem zu9{M:Nat}{sep:List UInt8}:∀{ws:List (List UInt8)},(∀x∈ws,x.length<=M)->(Lib.join ws sep).length<=ws.length*(M+sep.length):=by
 intro ws h;have e:∀(a:List UInt8) (r:List (List UInt8)),Lib.join (a::r) sep=a++Lib.joinTail sep r:=fun a r=>by
  induction r generalizing a with
  | nil=>simp [Lib.join,Lib.joinTail,List.intercalate]
  | cons b r ih =>
   have c:Lib.join (a::b::r) sep=a++sep++Lib.join (b::r) sep:=by simp[Lib.join,List.intercalate]
   rw[c,ih];simp[Lib.joinTail]
 have g:∀(r:List (List UInt8)),(∀x∈r,x.length<=M)->(Lib.joinTail sep r).length<=r.length*(M+sep.length):=fun r=>by
  induction r with
  | nil=>intro _;simp [Lib.joinTail]
  | cons b r ih =>
   intro f;have c:=ih fun x d=>f x (JV _ d);have i:=f b (KA ..);have j:Lib.joinTail sep (b::r)=sep++b++Lib.joinTail sep r:=by simp[Lib.joinTail]
   rw[j,lap,lap,Qp,UP];omega
 cases ws with
 | nil=>simp [Lib.join,List.intercalate]
 | cons a r =>
  rw[e,lap,Qp,UP];have c:=g r fun x d=>h x (JV _ d);have i:=h a (KA ..);omega
theorem znq(f:Nat->Bool):(seg 8 fun r => .bool (f r)).all Value.oneCell'=true:=by
 rw[Qg];intro v a;obtain⟨i,_,rfl⟩:=UI.1 a;rfl
section
variable{w:Wd}{q:OA}{cap:Nat}{l:List InsD}
theorem zqj(hl:SlR zU w q l)(hn:l.length<=1000000)(hd:∀x∈l,wOp x.op=true->x.dst.toNat<8):Calls PG 47 #[.slice q l.length cap] w fun e w' =>
  e = .returned (.agg (seg 8 fun r => .bool (zcd l r)).toArray)/\Bw w w':=by
 refine qA 25 [.slice q l.length cap] (.s .p (.c .p (.c (.s .p (.b (.l (.s .p (.s .p (.s (.b (.c .p (.s .p (.b (.c .p .p))))) .p)))))) .p))) Tryz.func47 ?_;obtain⟨Z0,z⟩:∃Z0:List Value,Z0=seg 8 fun _ => .bool false:=⟨_,rfl⟩;have d:=zt w (.cells (seg 8 fun _ => .bool false).toArray 121);have b1:Bw w (w.alloc (.cells (seg 8 fun _ => .bool false).toArray 121)):=zba w _;have n1:(w.alloc (.cells (seg 8 fun _ => .bool false).toArray 121)).heap.size=w.heap.size+1:=wz _ _;have f:=zt (w.alloc (.cells (seg 8 fun _ => .bool false).toArray 121)) (.cells (seg 8 fun _ => .bool false).toArray 121);refine⟨Unit,fun _=>⟨[(0,.slice q l.length cap),(2,At0 w.heap.size),(3,At0 (w.heap.size+1))],[]⟩,fun _ X=>X.heap[w.heap.size]?=some (.cells Z0.toArray 121 (0,0))/\X.heap[w.heap.size+1]?=some (.cells (seg 8 fun r => .bool (zcd [] r)).toArray 121 (0,0))/\Bw w X,
  ⟨(),⟨.cons rfl (.cons rfl (.cons (by rw[<- n1];rfl) .nil)),rfl⟩,by rw[z];exact qO _ d,by rw[<- n1];exact f,b1.alloc (by omega) _⟩,?_⟩
 rintro _ X ⟨d,f,m⟩;clear n1 b1;refine⟨Unit,fun _=>⟨[(2,At0 w.heap.size),(3,At0 (w.heap.size+1))],[]⟩,fun _ X=>X.heap[w.heap.size]?=some (.cells Z0.toArray 121 (0,0))/\X.heap[w.heap.size+1]?=some (.cells (seg 8 fun r => .bool (zcd l r)).toArray 121 (0,0))/\Bw w X,?_,?_⟩
 ·refine⟨Nat,fun k=>⟨[(2,At0 w.heap.size),(3,At0 (w.heap.size+1)),(6,.slice q l.length cap),(7,i64 l.length),(8,i64 k)],[]⟩,fun k X=>k<=l.length/\X.heap[w.heap.size]?=some (.cells Z0.toArray 121 (0,0))/\X.heap[w.heap.size+1]?=some (.cells (seg 8 fun r => .bool (zcd (l.take k) r)).toArray 121 (0,0))/\Bw w X,fun k=>l.length-k,0,
   (cvE rfl rfl),⟨UZ _,d,f,m⟩,?_⟩
  rintro k X ⟨hk,d,f,m⟩;refine biE (fun h=>?_) fun h=>?_
  ·have a:k<l.length:=by have:=dT h;omega
   clear h;obtain⟨b,o,rfl,ae,ad⟩:=(hl.below m).at a;obtain⟨x,hx⟩:=nm (l[k]);have g:=ad k a;rw[<- hx] at g;have af:x∈l:=by rw[hx];exact gM a
   have u:∀r,zcd (l.take (k+1)) r=(zcd (l.take k) r||(wOp x.op&&decide (x.dst.toNat=r))):=fun r=>by rw[hx];exact zrK a r
   refine⟨Nat,fun s=>⟨[(2,At0 w.heap.size),(3,At0 (w.heap.size+1)),(5,At0 s),(6,.slice (some ⟨b,o,none⟩) l.length cap),(7,i64 l.length),(8,i64 k)],[]⟩,fun s Y=>Y.heap[s]?=some (.cells (zU.enc x).toArray 68 (0,0))/\Bw X Y,?_,?_⟩
   ·exact⟨k,rfl,a,zU.enc x,rfl,g,ae,zo (X:=X) (v := .agg (zU.enc x).toArray) k68 rfl rfl rfl fun U ac fU sU=>⟨X.heap.size,(cvE rfl rfl),fU,ac⟩⟩
   rintro s Y ⟨f5,t⟩;have d:=zb t d;have f:=zb t f;have bY:=zst m t;refine⟨_,zc (za f5) (i:=0) rfl,Unit,fun _=>⟨[(2,At0 w.heap.size),(3,At0 (w.heap.size+1)),(5,At0 s),(6,.slice (some ⟨b,o,none⟩) l.length cap),(7,i64 l.length),(8,i64 k),(14,.bool (wOp x.op))],[]⟩,fun _ Z=>Y=Z,?_,?_⟩
   ·refine biE (fun h=>?_) fun h=>?_
    ·have h:x.op=1:=dT ((zcf (x:=x.op) (y:=1)).symm.trans h);exact⟨(),⟨.cons rfl (.cons rfl (.cons rfl (.cons rfl (.cons rfl (.cons rfl (.cons (by rw[h];rfl) .nil)))))),rfl⟩,rfl⟩
    have h1:¬x.op=1:=dF ((zcf (x:=x.op) (y:=1)).symm.trans h);refine biE (fun h=>?_) fun h=>?_
    ·have h:x.op=3:=dT ((zcf (x:=x.op) (y:=3)).symm.trans h);exact⟨(),⟨.cons rfl (.cons rfl (.cons rfl (.cons rfl (.cons rfl (.cons rfl (.cons (by rw[h];rfl) .nil)))))),rfl⟩,rfl⟩
    have h3:¬x.op=3:=dF ((zcf (x:=x.op) (y:=3)).symm.trans h);refine biE (fun h=>?_) fun h=>?_
    ·have h:x.op=4:=dT ((zcf (x:=x.op) (y:=4)).symm.trans h);exact⟨(),⟨.cons rfl (.cons rfl (.cons rfl (.cons rfl (.cons rfl (.cons rfl (.cons (by rw[h];rfl) .nil)))))),rfl⟩,rfl⟩
    have h4:¬x.op=4:=dF ((zcf (x:=x.op) (y:=4)).symm.trans h);refine biE (fun h=>?_) fun h=>?_
    ·have h:x.op=5:=dT ((zcf (x:=x.op) (y:=5)).symm.trans h);exact⟨(),⟨.cons rfl (.cons rfl (.cons rfl (.cons rfl (.cons rfl (.cons rfl (.cons (by rw[h];rfl) .nil)))))),rfl⟩,rfl⟩
    have h5:¬x.op=5:=dF ((zcf (x:=x.op) (y:=5)).symm.trans h);have e6:wOp x.op=decide (((x.op.toNat:Nat):Int)=6):=by
     unfold wOp;rw[Ue h1,Ue h3,Ue h4,Ue h5];exact(zcf (x:=x.op) (y:=6)).symm
    exact⟨(),⟨.cons rfl (.cons rfl (.cons rfl (.cons rfl (.cons rfl (.cons rfl (.cons (by rw[e6];rfl) .nil)))))),rfl⟩,rfl⟩
   rintro _ _ rfl;refine biE (fun h=>?_) fun h=>?_
   ·have aa:=hd x af h;refine⟨_,zc (za f5) (i:=1) rfl,x.dst.toNat,rfl,aa,zm k4 f (o:=0+x.dst.toNat*1) (v := .bool true) rfl rfl (by rw[zB];omega) rfl fun V fV gV sV=>?_⟩;rw[UQ,UX] at fV;have e:=zhA (n:=8) (fun r => .bool (zcd (l.take k) r)) (fun r => .bool (zcd (l.take (k+1)) r)) (i:=x.dst.toNat) aa rfl fun j hj=>by
     rw[u,Ue (fun e=>hj e.symm),Uf,Uu]
    rw[u,h,Up rfl,Bool.and_true,Bool.or_true] at e;rw[e] at fV;exact⟨_,ze (by omega),k+1,(cvE rfl rfl),⟨a,(gV.block _ (hlt d) (by simp)).trans d,fV,bY.trans (zl gV bY.size (by omega))⟩,by dsimp only;omega⟩
   ·have e:(fun r=>Value.bool (zcd (l.take (k+1)) r))=fun r => .bool (zcd (l.take k) r):=funext fun r=>by rw[u,h,Ug,Uu]
    exact⟨_,ze (by omega),k+1,(cvE rfl rfl),⟨a,d,by rw[e];exact f,bY⟩,by dsimp only;omega⟩
  ·have ab:k=l.length:=by have:=dF h;omega
   subst ab;rw[Qt] at f;exact⟨(),(cvE rfl rfl),d,f,m⟩
 rintro _ X ⟨d,f,m⟩;exact⟨seg 8 fun r => .bool (zcd l r),zB 8 _,za f,hlt f,zp (v := .agg (seg 8 fun r => .bool (zcd l r)).toArray) zyF d (by show(seg 8 _).length=8;exact zB 8 _) (by rw[z];show(seg 8 _).length=8;exact zB 8 _) (znq _) ⟨seg 8 fun r => .bool (zcd l r),zB 8 _,za (zn d),rfl,zk m (UW _) _⟩⟩
end
theorem zdq(x y:Operand)(a b:List UInt8)(h:a.length+b.length<=1000000000)(w:Wd):(do eqGuard .add 9 x y (qH a) (qH b);binOp .add 9 (qH a) (qH b)).run PG w = .ok (qH (a++b)) w:=by
 have f:(eqGuard .add 9 x y (qH a) (qH b)).run PG w = .ok () w:=rfl;have c:¬(((bs a).size+(bs b).size:Nat):Int) > IntKind.i64.max:=by
  have g:(bs a).size=a.length:=rfl;have d:(bs b).size=b.length:=rfl;rw[g,d];have:IntKind.i64.max=9223372036854775807:=by decide
  omega
 have e:bs a++bs b=bs (a++b):=by
  apply ByteArray.ext;simp[bs,ByteArray.data_append]
 rw[US,f,KZ];show(Op.stringOp .add (bs a) (bs b)).run PG w=_;simp only[Op.stringOp,Gm c,UT,e];rfl
def ItoH (N:Nat) (w:Wd):Prop:=∀n,n<N->∀X,Bw w X->Calls PG 48 #[i64 n] X fun e Y=>e = .returned (qH (zcx n))/\Bw X Y
theorem ItoH.below{N:Nat}{w X:Wd}(h:ItoH N w)(hb:Bw w X):ItoH N X:=fun n a Y b=>h n a Y ((zst hb b))
theorem zon(w:Wd):ItoH 100 w:=fun n a X _=>by
 refine cmo (Tryz.strconv_Itoa_small n a X) ?_;rintro e _ ⟨rfl,rfl⟩;rw[zvD (by omega)];exact⟨rfl,Gb _ _⟩
structure WdsV (w:Wd) (ws:List (List UInt8)) (q:OA) (c:Nat) (n:Nat) (X:Wd):Prop where
 own:OwnS zgF 9 w.heap.size X q c ws
 len:ws.length<=n
 word:∀x∈ws,x.length<=20000
 bel:Bw w X
theorem WdsV.below{w X Y:Wd}{ws:List (List UInt8)}{q:OA}{c n:Nat}(h:WdsV w ws q c n X)(hb:Bw X Y):WdsV w ws q c n Y:=⟨h.own.below hb,h.len,h.word,h.bel.trans (hb.mono h.bel.size)⟩
theorem znu{w X:Wd}{ws:List (List UInt8)}{q:OA}{c n:Nat}{s:List UInt8}(h:WdsV w ws q c n X)(hn:n<=1000)(hs:s.length<=20000){K:Value->Wd->Prop}
  (k:∀q' c' Y,WdsV w (ws++[s]) q' c' (n+1) Y->K (.slice q' (ws++[s]).length c') Y) :
  SatR ((Builtin.append_ #[22,22] 22 #[.slice q ws.length c,.slice (some ⟨X.heap.size,0,none⟩) 1 1]).run PG (X.alloc (.cells (zgF.enc s).toArray 9))) K:=by
 have a:Bw X (X.alloc (.cells (zgF.enc s).toArray 9)):=zba _ _;have j:=h.len;refine jG Tryz.underlying22 k9 rfl rfl rfl (h.own.below a) (news:=[s]) rfl (q9 zgF s) (by have:=h.bel.size;have:=a.size;omega) (by show ws.length+1<=_;omega) (by show(ws.length+1)*16<=_;omega) fun f c' S g i d e=>k f c' S ⟨g,by rw[lap];show _+1<=_;omega,fun x b=>?_,(h.bel.trans (a.mono h.bel.size)).trans d⟩;rcases QN.1 b with b | b
 ·exact h.word x b
 ·rw[KB.1 b];exact hs
theorem zuv{n:Nat}{l:List InsD}(h:qI l n=true):l.length<=12/\∀x∈l,x.dst.toNat<8:=by
 unfold qI at h;rw[bAT,Qg,dE] at h;refine⟨h.1,fun x b=>?_⟩;obtain⟨i,a,rfl⟩:=Kj b;have:=h.2 i (Ul.2 a);rw[gE a] at this;have:=Qg.1 this (decide (l[i].dst.toNat<8)) (by unfold jg;simp);exact dT this
theorem zsO{s:List UInt8}(h:zd3 s=true):s.length<=16:=by
 unfold zd3 at h
 cases s with
 | nil=>cases h
 | cons c r =>
  rw[bAT] at h;exact dT h.1
theorem zj5:∀{l pre:List (List UInt8)},zdA pre l=true->∀s∈l,s.length<=16
 | [],_,_,s,b=>by cases b
 | a::r,pre,h,s,b=>by
  unfold zdA at h;rw[bAT,bAT] at h;rcases UA.1 b with rfl | b
  ·exact zsO h.1
  ·exact zj5 h.2.2 s b
structure OkP (p:Prg):Prop where
 t1:1<=p.threads.length
 t4:p.threads.length<=4
 th:∀l∈p.threads,l.length<=12/\∀x∈l,x.dst.toNat<8
 l1:1<=p.locs.length
 l6:p.locs.length<=6
 ln:∀s∈p.locs,s.length<=16
theorem zwY{p:Prg}(h:zbp p=true):OkP p:=by
 unfold zbp zd6 at h;simp only[bAT,dE,Qg] at h;obtain⟨_,⟨g,c,_,f⟩,⟨a,b,_⟩,e,_⟩:=h;exact⟨a,b,fun l d=>zuv (e l d),g,c,zj5 f⟩
section
variable{w:Wd}{F:FinV}{p:Prg}{vs:List Value}{B N:Nat}
theorem zxz(hB:B<=w.heap.size)(hp:PrgV B w vs p)(hG:GlobC w)(hN:ItoH N w)(hN8:8<=N)(hr:∀t r,t<4->r<8->(F.reg t r).toNat<N)(hm:∀k,k<6->(F.mem k).toNat<N) :
  CB 17 #[.agg vs.toArray,zaq F] w (qH (zo3 p F)):=by
 refine qA 74 [.agg vs.toArray,zaq F] (.c .p (.s .p (.s .p (.c (.s .p (.b (.l (.s .p (.s .p (.s (.b (.c .p (.s .p (.b (.l (.s .p (.s .p (.s (.b (.c .p .p)) .p)))))))) .p)))))) (.c (.s .p (.b (.l (.s .p (.s .p (.s (.b (.c .p .p)) .p)))))) .p))))) Tryz.func17 ?_;have ay:=hp.size;refine⟨Unit,fun _=>⟨[(2,At0 w.heap.size),(3,At0 (w.heap.size+1))],[]⟩,fun _ X=>X.heap[w.heap.size]?=some (.cells vs.toArray 29 (0,0))/\X.heap[w.heap.size+1]?=some (.cells (zx.enc F).toArray 52 (0,0))/\Bw w X,?_,?_⟩
 ·have e1:(w.alloc (.cells (Value.agg vs.toArray).cells 29)).heap.size=w.heap.size+1:=wz _ _;have f3:=zt (w.alloc (.cells (Value.agg vs.toArray).cells 29)) (.cells (zaq F).cells 52);rw[e1] at f3;exact⟨(),⟨.cons rfl (.cons (by rw[<- e1];rfl) .nil),rfl⟩,qO _ (zt w _),f3,((zba w _)).alloc (by rw[wz];omega) _⟩
 rintro _ W0 ⟨f2,f3,b0⟩;refine⟨vs,ay,za f2,hlt f2,cmo (zga (UL hB b0.size) (hp.below (b0.mono hB)) (hG.below b0)) ?_⟩;rintro e W1 ⟨n,rfl,hn,b1⟩;have ab:=zst b0 b1;refine biE (fun h=>?_) fun h=>?_
 ·have h:¬n=0:=by simpa using h
  refine⟨?_,ab⟩;unfold zo3;rw[Gm fun e=>h (hn.2 e)];rfl
 have h:n=0:=by simpa using h
 have ap:=hn.1 h;have ok:=zwY ap;clear hn h;have f2:=zb b1 f2;have f3:=zb b1 f3;have af:=hN.below ab;have a1:=hp.below (ab.mono hB);clear hN hG;obtain⟨bg,p1,c1,p2,c2,p3,c3,p4,c4,rfl,h1,h2,⟨xs,al,h3,be⟩,h4,h5⟩:=a1;have aa:B<=W1.heap.size:=UL hB ab.size;have bk:xs.length=p.threads.length:=by rw[<- al,QJ]
 refine⟨OA×Nat,fun s=>⟨[(2,At0 w.heap.size),(3,At0 (w.heap.size+1)),(5,.slice s.1 (zc3 F p.threads p.threads.length).length s.2)],[]⟩,fun s X=>WdsV W1 (zc3 F p.threads p.threads.length) s.1 s.2 32 X,?_,?_⟩
 ·refine⟨_,zc (za f2) (i:=3) rfl,?_⟩;refine⟨Nat×OA×Nat,fun s=>⟨[(2,At0 w.heap.size),(3,At0 (w.heap.size+1)),(5,.slice s.2.1 (zc3 F p.threads s.1).length s.2.2),(16,.slice p3 p.threads.length c3),(17,i64 p.threads.length),(18,i64 (s.1:Nat))],[]⟩,
   fun s X=>s.1<=p.threads.length/\WdsV W1 (zc3 F p.threads s.1) s.2.1 s.2.2 (8*s.1) X,fun s=>p.threads.length-s.1,(0,none,0),(cvE rfl rfl),⟨UZ _,OwnS.nil,UW _,fun x hx=>(by cases hx),Gb _ _⟩,?_⟩
  rintro⟨k,q,c⟩ X ⟨hk,d⟩;dsimp only at hk d;refine biE (fun h=>?_) fun h=>?_
  ·have u:k<p.threads.length:=by have:=dT h;omega
   clear h;have ae:k<xs.length:=by omega
   obtain⟨x,hx⟩:=nm (xs[k]);have aw:x∈xs:=by rw[hx];exact gM ae
   have ax:p.threads.getD k []=x.1:=by rw[<- al,gDe,KT,gE ae,hx];rfl
   have a7:x.1∈p.threads:=by rw[<- al];exact Km aw
   have jO:=(h3.below (d.bel.mono aa)).slr (UL aa d.bel.size);obtain⟨b,o,rfl,a3,an⟩:=jO.at ae;have z:=an k ae;rw[<- hx] at z;have a9:=ok.th _ a7;refine⟨Unit,fun _=>⟨[(2,At0 w.heap.size),(3,At0 (w.heap.size+1)),(5,.slice q (zc3 F p.threads k).length c),(6,i64 k),(7,.slice x.2.1 x.1.length x.2.2),(16,.slice (some ⟨b,o,none⟩) p.threads.length c3),(17,i64 p.threads.length),(18,i64 k)],[]⟩,fun _ Y=>X=Y,?_,?_⟩
   ·exact⟨k,rfl,u,_,zbd z,(),(cvE rfl rfl),rfl⟩
   rintro _ _ rfl;have a4:=((be x aw).below (d.bel.mono aa)).slr (UL aa d.bel.size);refine cmo (zqj a4 (by omega) fun y hy _=>a9.2 y hy) ?_;rintro e Y ⟨rfl,bY⟩;have d:=d.below bY;refine⟨Nat×OA×Nat,fun s=>⟨[(2,At0 w.heap.size),(3,At0 (w.heap.size+1)),(5,.slice s.2.1 (zc3 F p.threads k++zeR F x.1 k s.1).length s.2.2),(6,i64 k),(16,.slice (some ⟨b,o,none⟩) p.threads.length c3),(17,i64 p.threads.length),(18,i64 k),(24,.agg (seg 8 fun r => .bool (zcd x.1 r)).toArray),(25,i64 (s.1:Nat))],[]⟩,
    fun s X=>s.1<=8/\WdsV W1 (zc3 F p.threads k++zeR F x.1 k s.1) s.2.1 s.2.2 (8*k+s.1) X,fun s=>8-s.1,(0,q,c),⟨.cons rfl (.cons rfl (.cons (by rw[show zeR F x.1 k 0=[] from rfl,QG];rfl) (.cons rfl (.cons rfl (.cons rfl (.cons rfl (.cons rfl (.cons rfl .nil)))))))),rfl⟩,⟨UZ _,by rw[show zeR F x.1 k 0=[] from rfl,QG];exact d⟩,?_⟩
   clear d bY;rintro⟨r,q,c⟩ X ⟨m,d⟩;dsimp only at m d;refine biE (fun h=>?_) fun h=>?_
   ·have m:r<8:=(by have:=dT h;omega);clear h;refine⟨Unit,fun _=>⟨[(2,At0 w.heap.size),(3,At0 (w.heap.size+1)),(5,.slice q (zc3 F p.threads k++zeR F x.1 k r).length c),(6,i64 k),(8,i64 r),(9,.bool (zcd x.1 r)),(16,.slice (some ⟨b,o,none⟩) p.threads.length c3),(17,i64 p.threads.length),(18,i64 k),(24,.agg (seg 8 fun r => .bool (zcd x.1 r)).toArray),(25,i64 (r:Nat))],[]⟩,fun _ Y=>X=Y,?_,?_⟩
    ·exact⟨r,rfl,m,zax (v := .bool (zcd x.1 r)) (by rw[UX];exact zcR (fun r => .bool (zcd x.1 r)) m) ⟨(),(cvE rfl rfl),rfl⟩⟩
    rintro _ _ rfl;have f:=zn3 F x.1 k r;refine biE (fun h=>?_) fun h=>?_
    ·rw[Gn h] at f;have ai:=zb d.bel f3;have ak:k<4:=(by have:=ok.t4;omega);have bb:k<N:=(by omega);have ba:r<N:=(by omega);obtain⟨V,hV⟩:=nm ((F.reg k r).toNat);have ag:V<N:=(by rw[hV];exact hr k r ak m);refine DrawE.ord [18] [0,1,4,8,9,10,11,12,13,14,2,3,5,6,7,15,16,17,18,19] (by kernel_rfl) ⟨k,rfl,ak,r,rfl,m,?_⟩;refine⟨_,by
      have:=zc (za (hdr ai)) (zpJ (F:=F) ak m);rw[UX,UB];exact this,?_⟩
     refine⟨(V:Int),by rw[hV];exact ze (by have:=(F.reg k r).toNat_lt;omega),?_⟩;have bd:Bw X X.drew:=(Gb _ X).drew;refine cmo (af k bb X.drew (d.bel.trans (bd.mono d.bel.size))) ?_;rintro e X1 ⟨rfl,b1⟩;refine⟨b1,?_⟩;have l1:=zcu k;have l2:=zcu r;have l3:=zcu V;have a8:=bd.trans b1;have ad:=d.below a8;refine⟨_,fun w=>zdq _ _ (zcx k) [58,114] (by show _+2<=_;omega) w,cmo (af r ba X1 ad.bel) ?_⟩;rintro e X2 ⟨rfl,b2⟩;refine⟨b2,?_⟩;have av:=ad.below b2;refine⟨_,fun w=>zdq _ _ (zcx k++[58,114]) (zcx r) (by rw[lap];show _+2+_<=_;omega) w,_,fun w=>zdq _ _ (zcx k++[58,114]++zcx r) [61] (by rw[lap,lap];show _+2+_+1<=_;omega) w,cmo (af V ag X2 av.bel) ?_⟩;rintro e X3 ⟨rfl,b3⟩;refine⟨b3,?_⟩;have a2:=av.below b3;refine⟨_,fun w=>zdq _ _ (zcx k++[58,114]++zcx r++[61]) (zcx V) (by rw[lap,lap,lap];show _+2+_+1+_<=_;omega) w,?_⟩;have hs:zcx k++[58,114]++zcx r++[61]++zcx V=zn4 F k r:=(by rw[hV];rfl);rw[hs];refine⟨⟨by decide,by decide,rfl⟩,[qH (zn4 F k r)],rfl,(zba _ _),?_⟩;unfold zod;refine znu (s:=zn4 F k r) a2 (by omega) (UL (zss F k r) (by decide)) fun q' c' Y hY=>?_;rw[KN,<- f] at hY ⊢;exact⟨_,ze (by omega),(r+1,q',c'),(cvE rfl rfl),⟨m,hY⟩,by dsimp only;omega⟩
    ·rw[Gm (by rw[h];decide),QG] at f;exact⟨_,ze (by omega),(r+1,q,c),⟨.cons rfl (.cons rfl (.cons (by rw[f];rfl) (.cons rfl (.cons rfl (.cons rfl (.cons rfl (.cons rfl (.cons rfl .nil)))))))),rfl⟩,⟨m,by dsimp only;rw[f];exact⟨d.own,UL d.len (by omega),d.word,d.bel⟩⟩,by dsimp only;omega⟩
   ·have ac:r=8:=(by have:=dF h;omega);subst ac;have e:=znJ F p.threads k;rw[ax] at e;rw[<- e] at d;have:=ok.t4;exact⟨_,ze (by omega),(k+1,q,c),⟨.cons rfl (.cons rfl (.cons (by dsimp only;rw[e];rfl) (.cons rfl (.cons rfl (.cons rfl .nil))))),rfl⟩,⟨u,d.own,UL d.len (by show _<=8*(k+1);omega),d.word,d.bel⟩,by dsimp only;omega⟩
  ·have ac:k=p.threads.length:=by have:=dF h;omega
   subst ac;exact⟨(q,c),(cvE rfl rfl),d.own,UL d.len (by have:=ok.t4;omega),d.word,d.bel⟩
 rintro⟨q,c⟩ X d;dsimp only at d;have am:=zb d.bel f2;obtain⟨A,hA⟩:=nm (zc3 F p.threads p.threads.length);rw[<- hA] at d ⊢;refine⟨OA×Nat,fun s=>⟨[(5,.slice s.1 (A++zdb F p.locs p.locs.length).length s.2)],[]⟩,fun s X=>WdsV W1 (A++zdb F p.locs p.locs.length) s.1 s.2 64 X,?_,?_⟩
 ·refine⟨_,zc (za am) (i:=1) rfl,?_⟩;refine⟨Nat×OA×Nat,fun s=>⟨[(2,At0 w.heap.size),(3,At0 (w.heap.size+1)),(5,.slice s.2.1 (A++zdb F p.locs s.1).length s.2.2),(52,.slice p1 p.locs.length c1),(53,i64 p.locs.length),(54,i64 (s.1:Nat))],[]⟩,
   fun s X=>s.1<=p.locs.length/\WdsV W1 (A++zdb F p.locs s.1) s.2.1 s.2.2 (32+s.1) X,fun s=>p.locs.length-s.1,(0,q,c),⟨.cons rfl (.cons rfl (.cons (by rw[show zdb F p.locs 0=[] from rfl,QG];rfl) (.cons rfl (.cons rfl (.cons rfl .nil))))),rfl⟩,⟨UZ _,by rw[show zdb F p.locs 0=[] from rfl,QG];exact d⟩,?_⟩
  clear d am;rintro⟨k,q,c⟩ X ⟨hk,d⟩;dsimp only at hk d;refine biE (fun h=>?_) fun h=>?_
  ·have u:k<p.locs.length:=by have:=dT h;omega
   clear h;obtain⟨s,hs⟩:=nm (p.locs[k]);have a6:p.locs.getD k []=s:=by rw[gDe,gE u,hs];rfl
   have bh:=ok.ln s (by rw[hs];exact gM u);have jO:=(h1.below (d.bel.mono aa)).slr (UL aa d.bel.size);obtain⟨b,o,rfl,a3,an⟩:=jO.at u;have z:=an k u;rw[<- hs] at z;refine⟨Unit,fun _=>⟨[(2,At0 w.heap.size),(3,At0 (w.heap.size+1)),(5,.slice q (A++zdb F p.locs k).length c),(10,i64 k),(11,qH s),(52,.slice (some ⟨b,o,none⟩) p.locs.length c1),(53,i64 p.locs.length),(54,i64 k)],[]⟩,fun _ Y=>X=Y,?_,?_⟩
   ·exact⟨k,rfl,u,_,zbd z,(),(cvE rfl rfl),rfl⟩
   rintro _ _ rfl;have ai:=zb d.bel f3;have aj:k<6:=by have:=ok.l6;omega
   obtain⟨V,hV⟩:=nm ((F.mem k).toNat);have ag:V<N:=by rw[hV];exact hm k aj
   have l3:=zcu V;refine⟨_,fun w=>zdq _ _ s [61] (by show _+1<=_;omega) w,k,rfl,aj,?_⟩;refine⟨_,by
    have:=zc (za ai) (zpK (F:=F) aj);rw[UX,UB];exact this,?_⟩
   refine⟨(V:Int),by rw[hV];exact ze (by have:=(F.mem k).toNat_lt;omega),cmo (af V ag X d.bel) ?_⟩;rintro e X1 ⟨rfl,b1⟩;have ad:=d.below b1;refine⟨_,fun w=>zdq _ _ (s++[61]) (zcx V) (by rw[lap];show _+1+_<=_;omega) w,?_⟩;have aq:s++[61]++zcx V=zq2 F k (p.locs.getD k []):=by rw[hV,a6];rfl
   have f:=zol F p.locs k;have a5:(zq2 F k (p.locs.getD k [])).length<=20000:=by rw[<- aq,lap,lap];show _+1+_<=_;omega
   rw[aq];refine⟨⟨by decide,by decide,rfl⟩,[qH (zq2 F k (p.locs.getD k []))],rfl,?_⟩;unfold zd1 zaN;refine znu (s:=zq2 F k (p.locs.getD k [])) ad (by omega) a5 fun q' c' Y hY=>?_;rw[KN,<- f] at hY ⊢;exact⟨_,ze (by omega),(k+1,q',c'),(cvE rfl rfl),⟨u,hY⟩,by dsimp only;omega⟩
  ·have ac:k=p.locs.length:=by have:=dF h;omega
   subst ac;exact⟨(q,c),(cvE rfl rfl),d.own,UL d.len (by have:=ok.l6;omega),d.word,d.bel⟩
 clear d am;rintro⟨q,c⟩ X d;dsimp only at d;obtain⟨ws,ah⟩:=nm (A++zdb F p.locs p.locs.length);have bc:zrR p F=ws:=by rw[ah,hA];rfl
 rw[<- ah] at d ⊢;have a0:0<ws.length:=by
  rw[ah,lap];unfold zdb;rw[QJ,KU];have:=ok.l1;omega
 obtain⟨g,o,rfl,hg,hc⟩:=d.own.row.at a0;have ao:ws.length<=c:=by
  rcases d.own.inv with⟨h,_⟩ | ⟨g',bi,h,_,_,az,_⟩
  ·cases h
  ·exact az
 have ar:(ws.map bs).map (fun x=>x.data.toList)=ws:=by rw[UF];exact List.map_id _
 have bj:=zu9 (sep:=[32]) d.word;have au:=d.len;have bf:ws.length*(20000+[(32:UInt8)].length)<=64*20001:=Un au (UW _);have hJ:=Tryz.strings_Join g o c (ws.map bs) (bs [32]) X (fun j x hx=>by
   rw[KT,Option.map_eq_some_iff] at hx;obtain⟨a,ha,rfl⟩:=hx;obtain⟨hj,rfl⟩:=Jr.1 ha;have:=zbd (hc j hj)
   rwa [show zgF.sz=1 from rfl,UX] at this) hg (by rw[QJ];omega) (by rw[QJ];exact ao) (by rw[ar];show(Lib.join ws [32]).length<=_;omega)
 rw[QJ,ar] at hJ;refine cmo hJ ?_;rintro e Y ⟨rfl,bY⟩;refine⟨?_,ab.trans ((d.bel.trans (bY.mono d.bel.size)).mono ab.size)⟩;unfold zo3;rw[Gn ap,bc];rfl
end
theorem zpD(x:UInt8)(w:Wd):Calls PG 297 #[u8 x] w fun e w'=>e = .returned (.bool false)/\w=w':=by
 refine zD 6 [u8 x] Tryz.func297 ?_;exact Gf (rb (by simp)) rfl
theorem zoR(x y:UInt8)(w:Wd):Calls PG 228 #[u8 x,u8 y] w fun e w'=>e = .returned (.int .i64 (zgU x y))/\w=w':=by
 refine zD 20 [u8 x,u8 y] Tryz.func228 ?_;refine cmo (zpD x w) ?_;rintro e w' ⟨rfl,rfl⟩;refine cmo (zpD y w) ?_;rintro e w' ⟨rfl,rfl⟩;refine Gf (fun h=>by cases h) (fun _=>Gf (fun h=>by cases h) (fun _=>biE (fun h=>?_) fun h=>?_))
 ·have h:(x.toNat:Int)<y.toNat:=dT h;exact Gf (ri (by unfold zgU;rw[Gn (by omega)])) rfl
 ·have h:¬(x.toNat:Int)<y.toNat:=dF h;refine biE (fun a=>?_) fun a=>?_
  ·have a:(y.toNat:Int)<x.toNat:=dT a;exact Gf (ri (by unfold zgU;rw[Gm (by omega),Gn (by omega)])) rfl
  ·have a:¬(y.toNat:Int)<x.toNat:=dF a;exact Gf (ri (by unfold zgU;rw[Gm (by omega),Gm (by omega)])) rfl
theorem zjr(p1 p2:OA)(cap1 cap2:Nat)(l1 l2:List UInt8)(w:Wd)(h1:SlR zS w p1 l1)(h2:SlR zS w p2 l2)(hn:l1.length<=1000000000) :
  Calls PG 169 #[.slice p1 l1.length cap1,.slice p2 l2.length cap2] w fun e w'=>e = .returned (.int .i64 (jS l1 l2))/\w=w':=by
 refine zD 36 [.slice p1 l1.length cap1,.slice p2 l2.length cap2] Tryz.func169 ?_;refine⟨Nat,fun k=>⟨[(0,.slice p1 l1.length cap1),(1,.slice p2 l2.length cap2),(4,.int .i64 0),(9,.slice p1 l1.length cap1),(10,.int .i64 l1.length),(11,.int .i64 (k:Nat))],[]⟩,
  fun k X=>k<=l1.length/\k<=l2.length/\X=w/\l1.take k=l2.take k,fun k=>l1.length-k,0,(cvE rfl rfl),⟨UZ _,UZ _,rfl,by simp⟩,?_⟩
 rintro k X ⟨q,j,rfl,m⟩;have f:=zku l1 l2 k q j m;refine biE (fun h=>?_) fun h=>?_
 ·have h:(k:Int)<l1.length:=dT h;have d:k<l1.length:=by omega
  have c:l1.drop k=l1[k]::l1.drop (k+1):=Jp d;obtain⟨u,t,rfl,o,l⟩:=zp9 h1 d;refine⟨k,rfl,d,_,l,biE (fun h=>?_) fun h=>?_⟩
  ·have h:(l2.length:Int)<=k:=dT h;refine Gf (ri ?_) rfl;have b:l2.drop k=[]:=JA (by omega);rw[f,c,b];rfl
  ·have h:¬(l2.length:Int)<=k:=dF h;have a:k<l2.length:=by omega
   have b:l2.drop k=l2[k]::l2.drop (k+1):=Jp a;obtain⟨r,s,rfl,p,i⟩:=zp9 h2 a;refine⟨k,rfl,a,_,i,cmo (zoR l1[k] l2[k] X) ?_⟩;rintro e w' ⟨rfl,rfl⟩;refine biE (fun h=>?_) fun h=>?_
   ·have h:¬zgU l1[k] l2[k]=0:=(by simpa using h);have g:l1[k]≠l2[k]:=fun e=>h (by rw[e];exact zrq _);refine Gf (ri ?_) rfl;rw[f,c,b,jS,Gm g]
   ·have h:zgU l1[k] l2[k]=0:=(by simpa using h);have n:l1[k]=l2[k]:=Decidable.byContradiction fun g=>zp7 g h;refine⟨(k+1:Nat),(ze (by omega)).trans (by omega),k+1,(cvE rfl rfl),⟨d,a,rfl,?_⟩,by dsimp only;omega⟩;rw[tsg d,tsg a,m,n]
 ·have h:¬(k:Int)<l1.length:=dF h;refine biE (fun h2=>?_) fun h2=>?_
  ·have h2:(l1.length:Int)<l2.length:=dT h2;refine Gf (ri ?_) rfl;have c:l1.drop k=[]:=JA (by omega);have b:l2.drop k=l2[k]::l2.drop (k+1):=Jp (by omega);rw[f,c,b];rfl
  ·have h2:¬(l1.length:Int)<l2.length:=dF h2;refine Gf (ri ?_) rfl;have c:l1.drop k=[]:=JA (by omega);have b:l2.drop k=[]:=JA (by omega);rw[f,c,b];rfl
end Go.Proofs.YtakcdebpklffiaaGreatDoor
namespace Go.Proofs.YtakcdebpklffiaaGreatDoor
open Go.Vc Go.RowKit Go.Sei
open Go.Sort
section
variable{α:Type}[Inhabited α]{E:Enc α}
theorem zi0(l:List α):(flatK E.enc E.sz l.toArray).toList=l.flatMap E.enc:=by
 apply KO;intro j;have g:(flatK E.enc E.sz l.toArray).toList.length=l.length*E.sz:=by rw[Array.length_toList,size_flatK];rfl
 by_cases b:j<l.length*E.sz
 ·have d:j/E.sz<l.length:=Kb (by rw[UM];exact b);have a:=Ge j E.pos;have f:(l.flatMap E.enc)[j]?=(E.enc l[j/E.sz])[j%E.sz]?:=by
   rw[<- zec l _ d,Ky,Gn a,Kx,UM,QV]
  have c:=get_flatK E.enc E.sz l.toArray j b;have hlt:j<(flatK E.enc E.sz l.toArray).size:=by rw[size_flatK];exact b
  rw[getElem!_pos (flatK E.enc E.sz l.toArray) j hlt] at c;have e:l.toArray[j/E.sz]! = l[j/E.sz]:=by
   rw[getElem!_pos l.toArray (j/E.sz) (by simpa using d)];simp
  rw[e,getElem!_pos (E.enc l[j/E.sz]) (j%E.sz) (by rw[E.len];exact a)] at c;rw[f,Array.getElem?_toList,Jn hlt,c];exact(gE (by rw[E.len];exact a)).symm
 ·rw[JI (by omega),JI (by rw[zZ];omega)]
theorem zor{T B cap g:Nat}{w:Wd}{l:List α}(h:OwnS E T B w (some ⟨g,0,none⟩) cap l):HoldsK E.enc E.sz w g 0 l.toArray:=by
 rcases h.inv with⟨h,_⟩ | ⟨m,a,f,_,c,_,_,k,i⟩
 ·cases h
 ·cases f
  intro j b;rw[size_flatK] at b;have b:j<l.length*E.sz:=b;have hlt:j<(flatK E.enc E.sz l.toArray).size:=by rw[size_flatK];exact b
  have e:a[j]?=some ((flatK E.enc E.sz l.toArray)[j]!):=by
   have d:(a.toList.take (l.length*E.sz))[j]?=(l.flatMap E.enc)[j]?:=by rw[i]
   rw[List.getElem?_take_of_lt b,Array.getElem?_toList,<- zi0,Array.getElem?_toList] at d;rw[d,Jn hlt,getElem!_pos (flatK E.enc E.sz l.toArray) j hlt]
  refine⟨?_,?_⟩
  ·simp only[World.cell?,c,UQ];simpa using e
  ·simp[World.frozen?,c]
theorem znM{T B cap g:Nat}{w:Wd}{l l':List α}(h:OwnS E T B w (some ⟨g,0,none⟩) cap l)(hl:l'.length=l.length)(n:Nat)(os:Array Obj) :
  OwnS E T B (sortWorldK E.enc E.sz w g 0 n l'.toArray os) (some ⟨g,0,none⟩) cap l'/\w.grownBy (sortWorldK E.enc E.sz w g 0 n l'.toArray os) (some g):=by
 rcases h.inv with⟨h,_⟩ | ⟨g',a,hp,z,t,s,hm,u,ht⟩
 ·cases h
 ·cases hp
  have m:=hlt t;have x:(flatK E.enc E.sz l'.toArray).size=l.length*E.sz:=by rw[size_flatK];show l'.length*_=_;rw[hl]
  have v:l.length*E.sz<=cap*E.sz:=Kd _ s;have heap:∀k,k<w.heap.size->(sortWorldK E.enc E.sz w g 0 n l'.toArray os).heap[k]?=if k=g then some (.cells (putCells id 0 (flatK E.enc E.sz l'.toArray) a) T (0,0)) else w.heap[k]?:=fun k r=>by
   have y:k<((Go.Sort.ahead w n).heap.modify g (onCells (putCells id 0 (flatK E.enc E.sz l'.toArray)))).size:=by simpa using r
   show(((Go.Sort.ahead w n).heap.modify g (onCells (putCells id 0 (flatK E.enc E.sz l'.toArray))))++os)[k]?=_;rw[Array.getElem?_append_left y,Array.getElem?_modify];by_cases b:k=g
   ·subst b;rw[Gn rfl,Gn rfl];show((w.heap[k]?).map _)=_;rw[t];rfl
   ·rw[Gm (fun e=>b e.symm),Gm b];rfl
  have i:w.heap.size<=(sortWorldK E.enc E.sz w g 0 n l'.toArray os).heap.size:=by
   show _<=(((Go.Sort.ahead w n).heap.modify g (onCells (putCells id 0 (flatK E.enc E.sz l'.toArray))))++os).size;rw[Array.size_append,Array.size_modify];exact Qv _ _
  have p:w.grownBy (sortWorldK E.enc E.sz w g 0 n l'.toArray os) (some g):=⟨rfl,rfl,rfl,i,fun k r q=>by
   rw[heap k r,Gm (fun e=>q (by rw[e]))]⟩
  refine⟨?_,p⟩;have c:(putCells id 0 (flatK E.enc E.sz l'.toArray) a).size=a.size:=by simp[putCells]
  refine⟨?_,.inr ⟨g,cap,putCells id 0 (flatK E.enc E.sz l'.toArray) a,rfl,z,?_,by rw[hl];exact s,hm,by rw[c,u],?_⟩⟩
  ·rw[zZ]
  ·rw[heap g m,Gn rfl]
  ·apply KO;intro j;by_cases o:j<l'.length*E.sz
   ·have d:j<(flatK E.enc E.sz l'.toArray).size:=(by rw[size_flatK];exact o);rw[List.getElem?_take_of_lt o,<- zi0,Array.getElem?_toList,Array.getElem?_toList];have f:j<a.size:=(by rw[u];rw[hl] at o;omega);simp only[putCells,Array.getElem?_mapIdx,Jn f,Ub];rw[Gn ⟨UZ _,by omega⟩,UO,Jn d,getElem!_pos (flatK E.enc E.sz l'.toArray) j d];rfl
   ·rw[JI (by rw[Qr];omega),JI (by rw[zZ];omega)]
end
theorem zu1:SWO (ltOf zgA) where
 irrefl:=zfN
 trans:=fun x y z b a=>zez b a
 ntrans:=fun x y z b a=>by
  have b:ltF x y=false:=b;have a:ltF y z=false:=a;show ltF x z=false;have e:leF y x=true:=by unfold leF;rw[b];rfl
  have d:leF z y=true:=by unfold leF;rw[a];rfl
  have c:=zka _ _ _ d e;unfold leF at c;simpa using c
theorem zq1(x y:FinV)(h1:ltOf zgA x y=false)(h2:ltOf zgA y x=false):x=y:=by
 have h1:ltF x y=false:=h1;have h2:ltF y x=false:=h2;rcases zgG x y with h | h | h
 ·rw[h] at h1;cases h1
 ·rw[h] at h2;cases h2
 ·exact h
theorem zr1(w:Wd)(o1 o2:Obj)(q:Nat):((w.alloc o1).alloc o2).drewN q=grow (w.drewN q) #[o1,o2]:=by
 have:(w.heap.push o1).push o2=w.heap ++ #[o1,o2]:=by
  rw[<- Qc];simp
 show({ w with heap:=(w.heap.push o1).push o2,drawn:=w.drawn+q }:Wd)={ w with heap:=w.heap ++ #[o1,o2],drawn:=w.drawn+q };rw[this]
def zfx (F:FinV) (t:Nat):List UInt8:=(F.l.drop (t*8)).take 8
def zmC (F:FinV):List UInt8:=F.l.drop 32
section
variable{F G:FinV}
theorem zdU{t:Nat}(h:t<4):(zfx F t).length=8:=by unfold zfx;rw[Qr,Qq,F.len];omega
theorem ziJ:(zmC F).length=6:=by unfold zmC;rw[Qq,F.len]
theorem zm2(t:Nat):F.l.drop (t*8)=zfx F t++F.l.drop ((t+1)*8):=by
 unfold zfx;rw[show(t+1)*8=t*8+8 by omega,<- Uh,JO]
theorem zuQ{t:Nat}(h:t<4)(e:zgA F G=jS (F.l.drop (t*8)) (G.l.drop (t*8))):zgA F G=if zfx F t=zfx G t then jS (F.l.drop ((t+1)*8)) (G.l.drop ((t+1)*8)) else jS (zfx F t) (zfx G t):=by
 rw[e,zm2,zm2 (F:=G),znm (by rw[zdU h,zdU h])]
theorem zkX{X:Wd}{b n o:Nat}(hf:X.heap[b]?=some (.cells (zx.enc F).toArray 52 (0,0))):SlR zS X (some ⟨b,o,none⟩) ((F.l.drop o).take n):=by
 refine .inr ⟨b,o,rfl,hlt hf,fun i c=>?_⟩;rw[Qr,Qq] at c;refine zaD fun j v a=>?_
 cases j with
 | succ j=>simp [zS] at a
 | zero =>
  have a:u8 (((F.l.drop o).take n)[i])=v:=by simpa [zS] using a
  rw[<- a,List.getElem_take,List.getElem_drop];have:=zc (za hf) (i:=o+i) (v:=u8 F.l[o+i]) (by
   show(F.l.map u8)[o+i]?=_;rw[KT,gE (by omega)];rfl)
  rw[UQ] at this;show X.cell? ⟨b,o+i*1+0,none⟩=_;rw[UX,UK];exact this
variable{w:Wd}
theorem zuO:Calls PG 86 #[zaq F,zaq G] w fun e w'=>e = .returned (.int .i64 (zgA F G))/\∃q os,w'=grow (w.drewN q) os:=by
 refine qA 28 [zaq F,zaq G] (.s .p (.c .p .p)) Tryz.func86 ?_;obtain⟨W,j⟩:=nm ((w.alloc (.cells (zx.enc F).toArray 52)).alloc (.cells (zx.enc G).toArray 52));have r:W.heap[w.heap.size]?=some (.cells (zx.enc F).toArray 52 (0,0)):=by rw[j];exact qO _ (zt w _)
 have t:W.heap[w.heap.size+1]?=some (.cells (zx.enc G).toArray 52 (0,0)):=by
  rw[j];have:=zt (w.alloc (.cells (zx.enc F).toArray 52)) (.cells (zx.enc G).toArray 52);rw[wz] at this;exact this
 have u:∀q,∃q' os,W.drewN q=grow (w.drewN q') os:=fun q=>⟨q,_,by rw[j];exact zr1 ..⟩;have d:∀{k b:Nat} {o:Obj},W.heap[b]?=some o->(W.drewN k).heap[b]?=some o:=fun h=>h;have m:W.drewN 0=W:=rfl;have x:(w.alloc (.cells (zx.enc F).toArray 52)).heap.size=w.heap.size+1:=wz _ _;refine⟨Unit,fun _=>⟨[(2,At0 w.heap.size),(3,At0 (w.heap.size+1))],[]⟩,fun _ X=>X=W.drewN 4/\zgA F G=jS (zmC F) (zmC G),?_,?_⟩
 ·refine⟨Nat,fun k=>⟨[(2,At0 w.heap.size),(3,At0 (w.heap.size+1)),(7,i64 k)],[]⟩,fun k X=>k<=4/\X=W.drewN k/\zgA F G=jS (F.l.drop (k*8)) (G.l.drop (k*8)),fun k=>4-k,0,
   ⟨.cons rfl (.cons (by rw[<- x];rfl) (.cons rfl .nil)),rfl⟩,⟨UZ _,by rw[m];exact j.symm,rfl⟩,?_⟩
  rintro k X ⟨z,rfl,i⟩;refine biE (fun h=>?_) fun h=>?_
  ·have a:k<4:=by have:=dT h;omega
   have cut:∀(b:Nat),Value.slice (qJ (some ⟨b,0+0+k*8,none⟩) 8 0 1) (8-0) (8-0) = .slice (some ⟨b,k*8,none⟩) 8 8:=fun b=>by rw[zah,UQ]
   refine DrawE.ord [] [0,1,2,3,4,5,6,7,8,9] (by kernel_rfl) ⟨k,rfl,a,k,rfl,a,?_⟩;have f:=zjr (some ⟨w.heap.size,k*8,none⟩) (some ⟨w.heap.size+1,k*8,none⟩) 8 8 (zfx F k) (zfx G k) (W.drewN k).drew (zkX (d (k:=k+1) r)) (zkX (d (k:=k+1) t)) (by rw[zdU a];decide);rw[zdU a,zdU a,<- cut,<- cut] at f;refine cmo f ?_;rintro e _ ⟨rfl,rfl⟩;refine⟨Gb _ _,?_⟩;have g:=zuQ a i;refine biE (fun h=>?_) fun h=>?_
   ·have h:¬jS (zfx F k) (zfx G k)=0:=(by simpa using h);rw[Gm fun e=>h (zkt.2 e)] at g;exact⟨by rw[g];rfl,u (k+1)⟩
   ·have h:jS (zfx F k) (zfx G k)=0:=(by simpa using h);rw[Gn (zkt.1 h)] at g;exact⟨_,ze (by omega),k+1,(cvE rfl rfl),⟨a,rfl,g⟩,by dsimp only;omega⟩
  ·have a:k=4:=by have:=dF h;omega
   subst a;exact⟨(),(cvE rfl rfl),rfl,i⟩
 rintro _ X ⟨rfl,i⟩;have cut:∀(b:Nat),Value.slice (qJ (some ⟨b,0+32,none⟩) 6 0 1) (6-0) (6-0) = .slice (some ⟨b,32,none⟩) 6 6:=fun b=>by rw[zah]
 refine DrawE.ord [] [0,1,2,3,4,5] (by kernel_rfl) ?_;have y:SlR zS (W.drewN 4).drew (some ⟨w.heap.size,32,none⟩) (zmC F):=by
  have:=zkX (n:=6) (o:=32) (d (k:=5) r)
  rwa [JE (by rw[Qq,F.len];decide)] at this
 have v:SlR zS (W.drewN 4).drew (some ⟨w.heap.size+1,32,none⟩) (zmC G):=by
  have:=zkX (n:=6) (o:=32) (d (k:=5) t)
  rwa [JE (by rw[Qq,G.len];decide)] at this
 have f:=zjr (some ⟨w.heap.size,32,none⟩) (some ⟨w.heap.size+1,32,none⟩) 6 6 (zmC F) (zmC G) (W.drewN 4).drew y v (by rw[ziJ];decide);rw[ziJ,ziJ,<- cut,<- cut] at f;refine cmo f ?_;rintro e _ ⟨rfl,rfl⟩;exact⟨Gb _ _,by rw[i];rfl,u 5⟩
end
end Go.Proofs.YtakcdebpklffiaaGreatDoor
namespace Go.Proofs.YtakcdebpklffiaaGreatDoor
open Go.Vc Go.RowKit Go.Sei
theorem zoB{P:Program}{w:Wd}{t T ty:TypeId}{iT:TI}{z:List Value}{m:Nat}(hu:P.underlying t=some (.slice T))(hT:TIok P T iT)(hz:iT.zero=some z)(hm:z.length=m)(h1:z.all Value.oneCell'=true)(hm0:0<m){b o n c:Nat}(hn:0<n){cs:List Value}{u:TypeId}(hg:w.heap[b]?=some (.cells cs.toArray u (0,0)))(ho:o+n*m<=cs.length){K:Value->Wd->Prop}
  (k:∀w' (zs:List Value),zs.length=n*m->w'.heap[b]?=some (.cells (cs.take o++zs++cs.drop (o+n*m)).toArray u (0,0))->w.grownBy w' (some b)->w'.heap.size=w.heap.size->K (.tuple #[]) w') :
  SatR ((Builtin.clear_ #[t] ty #[.slice (some ⟨b,o,none⟩) n c]).run P w) K:=by
 obtain⟨⟨aa,hi,_,_,r⟩,_⟩:=hT;obtain⟨a,s,p⟩:=r _ hz;have y:∀w,(zeroValue T).run P w = .ok a w:=fun w=>by simp[zeroValue,typeInfo,hi,s]
 have x:a.cells.size=m:=by rw[<- hm,<- p];simp
 obtain⟨zs,d⟩:=nm ((Builtin.zeroCells a.cells n).toList);have f:zs.length=n*m:=by rw[d];simp[Builtin.zeroCells,x]
 have h:∀v∈zs,v.oneCell'=true:=fun v e=>by
  rw[d] at e;simp only[Builtin.zeroCells,Qd,UI] at e;obtain⟨i,_,rfl⟩:=e;have hlt:i%a.cells.size<a.cells.size:=Ge _ (by omega);rw[getElem!_pos a.cells (i%a.cells.size) hlt];refine Qg.1 h1 _ ?_;rw[<- p];exact Array.getElem_mem_toList hlt
 have q:=Qb P b o u zs 0 cs.toArray w hg (by simpa [f] using ho) h;simp only[UK,f] at q;refine SatR.mk (v := .tuple #[]) (w':=w.setRow b (cs.take o++zs++cs.drop (o+n*m)).toArray) ?_ (k _ zs f (zn hg) (qW w b _) (by simp));obtain⟨j,rfl⟩:∃j,n=j+1:=⟨n-1,by omega⟩;simp[Builtin.clear_,Uq hu,y,<- d,q]
def zbz:FinV->List FinV->List FinV
 | _,[]=>[]
 | p,y::r=>if y=p then zbz p r else y::zbz y r
def zej:List FinV->List FinV
 | []=>[]
 | x::r=>x::zbz x r
theorem zfl:∀(A:List FinV) (p x:FinV),zbz p (A++[x])=if x=(p::A).getLast (by simp) then zbz p A else zbz p A++[x]
 | [],p,x=>by
  show(if x=p then[] else[x])=_;rfl
 | y::A,p,x=>by
  show(if y=p then zbz p (A++[x]) else y::zbz y (A++[x]))=_;have a:(p::y::A).getLast (by simp)=(y::A).getLast (by simp):=List.getLast_cons (by simp);rw[a];show _=if x=(y::A).getLast _ then(if y=p then zbz p A else y::zbz y A) else(if y=p then zbz p A else y::zbz y A)++[x]
  by_cases h:y=p
  ·subst h;rw[Gn rfl,Gn rfl,zfl A y x]
  ·rw[Gm h,Gm h,zfl A y x]
   split <;> rfl
theorem zrk{A:List FinV}(h:A≠[])(x:FinV):zej (A++[x])=if x=A.getLast h then zej A else zej A++[x]:=by
 cases A with
 | nil=>exact Gp rfl h
 | cons y A =>
  show y::zbz y (A++[x])=_;rw[zfl];show _=if x=(y::A).getLast h then y::zbz y A else y::zbz y A++[x]
  split <;> rfl
theorem zko{l:List FinV}{i:Nat}(h0:0<i)(hi:i<l.length):zej (l.take (i+1))=if l[i]=l[i-1] then zej (l.take i) else zej (l.take i)++[l[i]]:=by
 rw[tsg hi];have b:l.take i≠[]:=by
  intro e;have:=Gi List.length e;rw[Qr,QK] at this;omega
 rw[zrk b];have:(l.take i).getLast b=l[i-1]:=by
  have a:(l.take i).length-1=i-1:=by rw[Qr];omega
  simp only[List.getLast_eq_getElem,List.getElem_take,a]
 rw[this]
section
variable{B g cap:Nat}{l:List FinV}{w:Wd}
theorem zhM{X:Wd}{sp:List Value}{M:List FinV}(h:RowS zx 52 X g sp M){i:Nat}(hi:i<M.length):zI X ⟨g,0+i*38,none⟩ (zx.enc M[i]):=h.at hi
theorem zpL{M:List FinV}{i:Nat}{x:FinV}(h:M[i]?=some x):∃hi:i<M.length,M[i]=x:=by
 obtain⟨hi,e⟩:=Jr.1 h;exact⟨hi,e⟩
theorem zoS(ho:OwnS zx 52 B w (some ⟨g,0,none⟩) cap l)(hn:l.length<=1000000) :
  Calls PG 87 #[.slice (some ⟨g,0,none⟩) l.length cap] w fun e w'=>e = .returned (.slice (some ⟨g,0,none⟩) (zej l).length cap)/\OwnS zx 52 B w' (some ⟨g,0,none⟩) cap (zej l)/\w.grownBy w' (some g):=by
 refine zD 61 [.slice (some ⟨g,0,none⟩) l.length cap] Tryz.func87 ?_;rcases ho.inv with⟨h,_⟩ | ⟨g',cur,hg,hB,hcur,hlc,hcm,hcs,hct⟩
 ·cases h
 simp only[KY,Ur,Gh] at hg;subst hg;have hcs:cur.size=cap*38:=hcs;obtain⟨sp,hsp⟩:=nm (cur.toList.drop (l.length*38));have hct:cur.toList.take (l.length*38)=l.flatMap zx.enc:=hct;have hR:RowS zx 52 w g sp l:=by
  unfold RowS;rw[hcur,<- hct,hsp,JO]
 have hspl:l.length*38+sp.length=cap*38:=by
  have h1:cur.toList.length=cap*38:=by rw[Array.length_toList];exact hcs
  rw[hsp,Qq,h1];omega
 refine biE (fun h=>?_) fun h=>?_
 ·have h:(l.length:Int)<2:=dT h;have e:zej l=l:=by
   match l,h with
   | [],_=>rfl
   | [x],_=>rfl
   | x::y::r,h=>simp at h;omega
  rw[e];exact⟨rfl,ho,qo w _⟩
 have h:¬(l.length:Int)<2:=dF h;have hl2:2<=l.length:=by omega
 refine⟨Nat,fun k=>⟨[(0,.slice (some ⟨g,0,none⟩) l.length cap),(3,i64 (k:Nat))],[]⟩,fun k X=>1<=k/\k<=l.length/\zej (l.take k)=l.take k/\RowS zx 52 X g sp l/\w.grownBy X (some g),fun k=>l.length-k,1,
  (cvE rfl rfl),⟨UW _,by omega,by
   cases l with
   | nil=>rfl
   | cons x r=>rfl,hR,qo w _⟩,?_⟩
 rintro k X ⟨hk1,hkl,hdk,hRX,gX⟩;refine biE (fun hc=>?_) fun hc=>?_
 ·have hc:(k:Int)<(l.length:Int):=dT hc;have hk:k<l.length:=by omega
  refine DrawE.ord [] [0,1,2,3,4,5,6,7,8,9] (by kernel_rfl) ?_;have hRd:RowS zx 52 X.drew g sp l:=hRX;have gd:w.grownBy X.drew (some g):=zd gX ⟨rfl,rfl,rfl,UW _,fun _ _ _=>rfl⟩;refine⟨k,rfl,hk,?_⟩;refine⟨zx.enc l[k],zx.len _,zhM hRd hk,hRd.lt,?_⟩;refine⟨((k-1:Nat):Int),(ze (by omega)).trans (by omega),?_⟩;refine⟨k-1,rfl,by omega,?_⟩;refine⟨zx.enc l[k-1],zx.len _,zhM hRd (by omega),hRd.lt,?_⟩;refine⟨_,fun w=>zmY _ _ l[k] l[k-1] w,?_⟩;have hnx:=zko (l:=l) hk1 hk;refine biE (fun he=>?_) fun he=>?_
  ·have he:l[k]=l[k-1]:=dT he;rw[Gn he] at hnx;refine⟨k,rfl,by show k<=l.length;omega,?_⟩;have hcb:qJ (some ⟨g,0,none⟩) cap k 38=some ⟨g,k*38,none⟩:=by
    unfold qJ;rw[Gm (by omega)];show some ((⟨g,0,none⟩:Addr).add (k*38))=_;rw[za1,UQ]
   refine⟨Nat×Nat×List FinV,fun s=>⟨[(0,.slice (some ⟨g,0,none⟩) l.length cap),(3,i64 (s.2.1:Nat)),(4,.slice (some ⟨g,k*38,none⟩) (l.length-k) (cap-k)),(5,i64 (s.1:Nat))],[]⟩,
    fun s Y=>(1<=s.1/\k+s.1<=l.length)/\(s.2.1=(zej (l.take (k+s.1))).length/\s.2.1+1<=k+s.1)/\(s.2.2.length=l.length/\s.2.2.take s.2.1=zej (l.take (k+s.1))/\∀j,s.2.1<=j->s.2.2[j]?=l[j]?)/\RowS zx 52 Y g sp s.2.2/\w.grownBy Y (some g),fun s=>l.length-s.1,(1,k,l),
    ⟨.cons rfl (.cons rfl (.cons (by rw[<- hcb];rfl) (.cons rfl .nil))),rfl⟩,⟨⟨UW _,by show k+1<=_;omega⟩,⟨by show k=_;rw[hnx,hdk,Qr];omega,UW _⟩,⟨rfl,by show l.take k=_;rw[hnx,hdk],fun j _=>rfl⟩,hRd,gd⟩,?_⟩
   rintro⟨m,q,M⟩ Y ⟨⟨hm1,hml⟩,⟨hq,hqm⟩,⟨hM,hMt,hMj⟩,hRY,gY⟩;dsimp only at hm1 hml hq hqm hM hMt hMj hRY ⊢;refine biE (fun hc=>?_) fun hc=>?_
   ·have hc:(m:Int)<((l.length-k:Nat):Int):=dT hc;have hi:k+m<l.length:=(by omega);have g1:M[k+m]?=some l[k+m]:=(by rw[hMj _ (by omega),gE hi]);have g0:M[k+m-1]?=some l[k+m-1]:=(by rw[hMj _ (by omega),gE (by omega)]);obtain⟨i1,e1⟩:=zpL g1;obtain⟨i0,e0⟩:=zpL g0;have nx:=zko (l:=l) (i:=k+m) (by omega) hi;refine DrawE.ord [] [0,1,2,3,4,5,6,7,8,9] (by kernel_rfl) ?_;have hRYd:RowS zx 52 Y.drew g sp M:=hRY;have gYd:w.grownBy Y.drew (some g):=zd gY ⟨rfl,rfl,rfl,UW _,fun _ _ _=>rfl⟩;have a1:zI Y.drew ⟨g,k*38+m*38,none⟩ (zx.enc l[k+m]):=by
     have:=zhM hRYd i1;rw[e1,UQ,UV] at this;exact this
    have a0:zI Y.drew ⟨g,k*38+(m-1)*38,none⟩ (zx.enc l[k+m-1]):=by
     have:=zhM hRYd i0;rw[e0,UQ,show(k+m-1)*38=k*38+(m-1)*38 by omega] at this;exact this
    refine⟨m,rfl,by omega,?_⟩;refine⟨zx.enc l[k+m],zx.len _,a1,hRYd.lt,?_⟩;refine⟨((m-1:Nat):Int),(ze (by omega)).trans (by omega),?_⟩;refine⟨m-1,rfl,by omega,?_⟩;refine⟨zx.enc l[k+m-1],zx.len _,a0,hRYd.lt,?_⟩;refine⟨_,fun w=>zmy _ _ l[k+m] l[k+m-1] w,?_⟩;refine biE (fun hne=>?_) fun hne=>?_
    ·have hne:¬l[k+m]=l[k+m-1]:=fun e=>by
      have hne:(!decide (l[k+m]=l[k+m-1]))=true:=hne;rw[e,Up rfl] at hne;cases hne
     rw[Gm hne] at nx;refine⟨m,rfl,by omega,?_⟩;refine⟨zx.enc l[k+m],zx.len _,a1,hRYd.lt,?_⟩;refine⟨q,rfl,by omega,?_⟩;refine zgj k52 rfl hRYd (i:=q) (by omega) l[k+m] fun Z hRZ gZ sZ=>?_;refine nxI (by omega) ?_;refine nxI (by omega) ?_;refine⟨(m+1,q+1,M.set q l[k+m]),(cvE rfl rfl),⟨⟨by omega,by show k+(m+1)<=_;omega⟩,⟨?_,by show q+1+1<=k+(m+1);omega⟩,⟨by rw[QL];exact hM,?_,fun j hj=>?_⟩,hRZ,zd gYd gZ⟩,zdc (by omega)⟩
     ·show q+1=(zej (l.take (k+(m+1)))).length;rw[<- UB,nx,lap,<- hq];rfl
     ·show(M.set q l[k+m]).take (q+1)=zej (l.take (k+(m+1)));rw[<- UB,nx,<- hMt];rw[tsg (by rw[QL];omega),List.take_set_of_le (UW _),List.getElem_set_self]
     ·show(M.set q l[k+m])[j]?=l[j]?;have hj:q+1<=j:=hj;rw[JT (by omega)];exact hMj j (by omega)
    ·have heq:l[k+m]=l[k+m-1]:=by
      have hne:(!decide (l[k+m]=l[k+m-1]))=false:=hne;simpa using hne
     rw[Gn heq] at nx;refine nxI (by omega) ?_;exact⟨(m+1,q,M),(cvE rfl rfl),⟨⟨by omega,by show k+(m+1)<=_;omega⟩,⟨by show q=(zej (l.take (k+(m+1)))).length;rw[<- UB,nx];exact hq,by show q+1<=k+(m+1);omega⟩,⟨hM,by show M.take q=zej (l.take (k+(m+1)));rw[<- UB,nx];exact hMt,hMj⟩,hRYd,gYd⟩,zdc (by omega)⟩
   ·have hc:¬(m:Int)<((l.length-k:Nat):Int):=dF hc;have hkm:k+m=l.length:=(by omega);rw[hkm,Qt] at hq hMt;refine⟨q,rfl,by show q<=l.length;omega,?_⟩;have hcb2:qJ (some ⟨g,0,none⟩) cap q 38=some ⟨g,q*38,none⟩:=by
     unfold qJ;rw[Gm (by omega)];show some ((⟨g,0,none⟩:Addr).add (q*38))=_;rw[za1,UQ]
    have hfl:(M.flatMap zx.enc++sp).length=cap*38:=by
     rw[lap,zZ,hM];show l.length*38+_=_;omega
    have hcl:SatR ((Builtin.clear_ #[40] 0 #[.slice (some ⟨g,q*38,none⟩) (l.length-q) (cap-q)]).run PG Y) fun _ Z=>(∃zs:List Value,zs.length=(l.length-q)*38/\Z.heap[g]?=some (.cells ((M.flatMap zx.enc++sp).take (q*38)++zs++(M.flatMap zx.enc++sp).drop (q*38+(l.length-q)*38)).toArray 52 (0,0)))/\Y.grownBy Z (some g) :=
     zoB Tryz.underlying40 k52 rfl rfl rfl (by decide) (by omega) hRY (by show q*38+(l.length-q)*38<=(M.flatMap zx.enc++sp).length;rw[hfl];omega) fun Z zs hzs fZ gZ sZ=>⟨⟨zs,hzs,fZ⟩,gZ⟩
    obtain⟨v,Z,hrun,⟨zs,hzs,fZ⟩,gZ⟩:=hcl;refine⟨v,Z,by rw[hcb2];exact hrun,?_⟩;refine⟨q,rfl,by show q<=cap;omega,?_⟩;rw[<- hq];refine⟨by show Ending.returned (Value.slice (qJ (some ⟨g,0,none⟩) cap 0 38) (q-0) (cap-0))=_;rw[zah];rfl,?_,zd gY gZ⟩;unfold OwnS World.ownsRow;refine⟨by rw[zZ],.inr ⟨g,cap,_,rfl,hB,fZ,by omega,hcm,?_,?_⟩⟩
    ·show(List.length _)=cap*38;rw[lap,lap,Qr,hzs,Qq,hfl];omega
    ·rw[<- hq];show((M.flatMap zx.enc++sp).take (q*38)++zs++(M.flatMap zx.enc++sp).drop (q*38+(l.length-q)*38)).take (q*38)=_;rw[KN,Jg (by rw[Qr,hfl];omega),List.take_take,Nat.min_self,Jg (by rw[zZ,hM];show q*38<=l.length*38;omega),<- hMt];have e2:M.flatMap zx.enc=(M.take q).flatMap zx.enc++(M.drop q).flatMap zx.enc:=(by rw[<- Kh,JO]);rw[e2,QT (by rw[zZ,Qr];show min q M.length*38=q*38;rw[QW (by omega)])]
  ·have he:¬l[k]=l[k-1]:=fun e=>(dF he) (by rw[e]);rw[Gm he,hdk] at hnx;refine nxI (by omega) ?_;exact⟨k+1,(cvE rfl rfl),⟨by omega,hk,by rw[hnx,tsg hk],hRd,gd⟩,zdc (by omega)⟩
 ·have hc:¬(k:Int)<(l.length:Int):=dF hc;obtain rfl:k=l.length:=by omega
  rw[Qt] at hdk;rw[hdk];refine⟨rfl,?_,gX⟩;unfold OwnS World.ownsRow;refine⟨by rw[zZ],.inr ⟨g,cap,_,rfl,hB,hRX,by omega,hcm,?_,?_⟩⟩
  ·show(l.flatMap zx.enc++sp).length=cap*38;rw[lap,zZ];show l.length*38+_=_;omega
  ·exact QT (zZ l)
end
theorem zxF(n:Nat)(hn:n<=1000000000)(w:Wd)(B:Nat)(hB:B<=w.heap.size) :
  Calls PG 166 #[.slice none 0 0,.int .i64 n] w fun e w'=>∃p cap,e = .returned (.slice p 0 cap)/\OwnS zx 52 B w' p cap []/\Bw w w':=by
 refine zD 27 [.slice none 0 0,.int .i64 n] Tryz.func166 ?_;refine biE (fun h=>?_) fun _=>?_
 ·have:=dT h;omega
 have a:∀w,(Builtin.cap_ #[40] 3 #[.slice none 0 0]).run PG w = .ok (.int .i64 0) w:=fun w=>by simp[Builtin.cap_,Uq Tryz.underlying40,goInt]
 refine SatR.mk (a _) ⟨0,by rfl,?_⟩;refine⟨n,(ze (by omega)).trans (by omega),biE (fun h=>?_) fun _=>?_⟩
 ·have h:=dT h;refine SatR.mk (a _) ⟨0,rfl,by omega,?_⟩;refine zrD (α:=FinV) (E:=zx) Tryz.underlying40 Tryz.underlying3 k52 rfl rfl rfl hB (by omega) (by omega) (by dsimp only;omega) ?_;intro b w' c d f;refine⟨0,rfl,by omega,?_⟩;exact⟨some ⟨w.heap.size,0,none⟩,b,by rw[zah];rfl,c,d⟩
 ·exact⟨none,0,rfl,.nil,Gb _ _⟩
structure Part where
 p:OA
 cap:Nat
 l:List FinV
def Part.val (q:Part):Value := .slice q.p q.l.length q.cap
def zfG:Enc Part:=⟨fun q=>[q.val],1,fun _=>rfl,by decide,fun a u hu=>by
 simp only[UA,Qs,Gk] at hu;subst hu;rfl⟩
def Part.ok (w:Wd) (q:Part):Prop:=SlR zx w q.p q.l/\(q.p=none->q.cap=0)
theorem Part.ok.below{w w2:Wd}{q:Part}(h:q.ok w)(hb:Bw w w2):q.ok w2:=⟨h.1.below hb,h.2⟩
def zbe (qs:List Part):List FinV:=qs.flatMap (·.l)
theorem zhY{qs:List Part}{k:Nat}(hk:k<qs.length):zbe (qs.take (k+1))=zbe (qs.take k)++qs[k].l:=by
 unfold zbe;rw[tsg hk,Kh];simp
theorem zjK{qs:List Part}(k:Nat):(zbe (qs.take k)).length<=(zbe qs).length:=by
 have:zbe qs=zbe (qs.take k)++zbe (qs.drop k):=by unfold zbe;rw[<- Kh,JO]
 rw[this];simp
theorem zug(p:OA)(cap:Nat)(qs:List Part)(w:Wd)(hp:SlR zfG w p qs)(hq:∀q∈qs,q.ok w)(hn:(zbe qs).length<=1000000000)(hqn:qs.length<=1000000000) :
  Calls PG 84 #[.slice p qs.length cap] w fun e w'=>∃p' cap',e = .returned (.slice p' (zbe qs).length cap')/\OwnS zx 52 w.heap.size w' p' cap' (zbe qs)/\Bw w w':=by
 refine zD 36 [.slice p qs.length cap] Tryz.func84 ?_;refine⟨Nat,fun k=>⟨[(0,.slice p qs.length cap),(2,.slice none 0 0),(3,.int .i64 (zbe (qs.take k)).length),(9,.slice p qs.length cap),(10,.int .i64 qs.length),(11,.int .i64 (k:Nat))],[]⟩,
  fun k X=>k<=qs.length/\X=w,fun k=>qs.length-k,0,(cvE rfl rfl),⟨UZ _,rfl⟩,?_⟩
 rintro k X ⟨x,rfl⟩;refine biE (fun h=>?_) fun h=>?_
 ·have h:=dT h;have a:k<qs.length:=by omega
  obtain⟨b,o,rfl,hb,u⟩:=hp.at a;have i:=zhY a;have g:=zjK (qs:=qs) (k+1);rw[i,lap] at g;refine⟨k,rfl,a,_,zbd (u k a),_,ze (by omega),biE (fun h=>?_) fun h=>?_⟩
  ·have:=dT h;omega
  ·exact⟨_,ze (by omega),k+1,⟨.cons rfl (.cons rfl (.cons (by rw[i,lap];rfl) (.cons rfl (.cons rfl (.cons rfl .nil))))),rfl⟩,⟨a,rfl⟩,by dsimp only;omega⟩
 ·have h:=dF h;have f:k=qs.length:=by omega
  subst f;have t:zbe (qs.take qs.length)=zbe qs:=by rw[Qt]
  refine cmo (zxF (zbe (qs.take qs.length)).length (by rw[t];exact hn) X X.heap.size (UW _)) ?_;rintro e Y ⟨pg,z,rfl,v,r⟩;refine⟨Nat×OA×Nat,fun s=>⟨[(0,.slice p qs.length cap),(2,.slice none 0 0),(6,.slice s.2.1 (zbe (qs.take s.1)).length s.2.2),(25,.slice p qs.length cap),(26,.int .i64 qs.length),(27,.int .i64 (s.1:Nat))],[]⟩,
   fun s Z=>s.1<=qs.length/\Bw X Z/\OwnS zx 52 X.heap.size Z s.2.1 s.2.2 (zbe (qs.take s.1)),fun s=>qs.length-s.1,(0,pg,z),(cvE rfl rfl),⟨UZ _,r,v⟩,?_⟩
  rintro⟨k,y,cn⟩ Z ⟨x,c,d⟩;dsimp only at x d;refine biE (fun h=>?_) fun h=>?_
  ·have h:=dT h;have a:k<qs.length:=by omega
   obtain⟨b,o,rfl,hb,u⟩:=(hp.below c).at a;have i:=zhY a;have g:=zjK (qs:=qs) (k+1);rw[i,lap] at g;have m:=(hq qs[k] (gM _)).below c;refine⟨k,rfl,a,_,zbd (u k a),zf5 (α:=FinV) (E:=zx) (news:=qs[k].l) Tryz.underlying40 k52 rfl rfl rfl d rfl m.1 m.2 c.size (by omega) (by dsimp only;omega) ?_⟩;intro p' cap' w' j aa n;refine⟨_,ze (by omega),?_⟩;rw[<- i] at j;exact⟨(k+1,p',cap'),⟨.cons rfl (.cons rfl (.cons (by rw[i];rfl) (.cons rfl (.cons rfl (.cons rfl .nil))))),rfl⟩,⟨a,c.trans n,j⟩,by dsimp only;omega⟩
  ·have h:=dF h;have f:k=qs.length:=by omega
   subst f;rw[t] at d;exact⟨y,cn,by rw[<- t];rfl,d,c⟩
def zfM (c:Cnd) (l:List FinV):Nat:=((zbx l).filter fun f=>qP f 20 c).length
def zhu (ask:UInt8) (c:Cnd) (l:List FinV):Bool :=
 if ask=1 then decide (0<zfM c l) else if ask=2 then decide (zfM c l=0) else if ask=3 then decide (zfM c l=(zbx l).length) else false
theorem zjZ{α:Type}[DecidableEq α]:∀{a b:List α},a.Nodup->(∀x∈a,x∈b)->a.length<=b.length
 | [],b,_,_=>UZ _
 | x::r,b,h,hs=>by
  have d:=hs x (KA ..);have f:=QR.1 h;have:=zjZ (a:=r) (b:=b.erase x) f.2 fun y c=>(List.mem_erase_of_ne (fun e=>by subst e;exact f.1 c)).2 (hs y (JV _ c));rw[List.length_erase_of_mem d] at this;have:=List.length_pos_of_mem d;simp only[Qp];omega
end Go.Proofs.YtakcdebpklffiaaGreatDoor
